/- That the texts make what their models say: printed by a program. -/
import Derived.Test.YtmlhjobmpjpmnaaDoorDM
set_option linter.all false
set_option linter.unusedVariables false
set_option linter.unusedSimpArgs false
set_option linter.unusedSectionVars false
namespace Go.Nw.DM
open Go.Nw.Door
set_option linter.unusedSimpArgs false
set_option linter.unusedVariables false
variable {O : Orac}

theorem k__circuit_state__conducts (hf : Has O "(newel/circuit.state).conducts" x__circuit_state__conducts) : C__circuit_state__conducts O := by
  intro s sw r hm0
  unfold _circuit_state__conducts at hm0
  refine fn_cw hf rfl (fz_cons (.agg _ (fz_cons (frz_v _) (fz_cons (frz_fs fun a _ => fz_eI a) (fz_cons (frz_fs fun a _ => fz_eWire a) (fz_cons (frz_v _) (fz_cons (frz_v _) (fz_cons (frz_v _) fz_nil))))))) (fz_cons (frz_v _) fz_nil)) (frz_v _) ?_
  refine cw_start (fun t h => t 0 = .agg [I s.c.Hazards, .fs 1 (List.map eI s.c.Switches), .fs 2 (List.map eWire s.c.Wires), I s.hazards, I s.closed, I s.open_] ∧ t 1 = I sw) ⟨rfl, rfl⟩ fun t h ⟨s0, s1⟩ => ?_
  simp only [x__circuit_state__conducts]
  refine cw_reg_seq fun K hK => ?_
  simp only [go_sem, s0]
  refine hK _ _ ?_
  clear hK K
  obtain ⟨q6, h_q6, hm0⟩ := bind_get hm0
  obtain ⟨c10, h_c10, hm0⟩ := bind_get hm0
  refine cw_reg_postK (fun t h => t 4 = B c10) (fun K hK => ?_) ?_
  · simp only [go_sem, s1, ibin_shr h_q6]
    refine ibr_intro (fun hg11 => ?_) (fun hg11 => ?_)
    · simp only [hg11, Bool.not_true, Bool.not_false, eq_self, if_true, if_false, Bool.true_or, Bool.or_true, Bool.false_or, Bool.or_false, Bool.true_and, Bool.and_true, Bool.false_and, Bool.and_false, Bool.false_eq_true] at h_c10
      obtain ⟨q7, h_q7, h_c10⟩ := bind_get h_c10
      obtain ⟨c9, h_c9, h_c10⟩ := bind_get h_c10
      obtain rfl := Option.some.inj h_c10
      simp only [go_sem, s1, ibin_shr h_q6, ibin_shr h_q7, hg11]
      refine ibr_intro (fun hg12 => ?_) (fun hg12 => ?_)
      · simp only [hg11, hg12, Bool.not_true, Bool.not_false, eq_self, if_true, if_false, Bool.true_or, Bool.or_true, Bool.false_or, Bool.or_false, Bool.true_and, Bool.and_true, Bool.false_and, Bool.and_false, Bool.false_eq_true] at h_c9
        obtain rfl := Option.some.inj h_c9
        simp only [go_sem, s1, ibin_shr h_q6, ibin_shr h_q7, hg11, hg12]
        exact hK _ _ (by first | rfl | simp only [go_sem, hg11, hg12, List.length_append, List.map_append])
      · simp only [hg11, hg12, Bool.not_true, Bool.not_false, eq_self, if_true, if_false, Bool.true_or, Bool.or_true, Bool.false_or, Bool.or_false, Bool.true_and, Bool.and_true, Bool.false_and, Bool.and_false, Bool.false_eq_true] at h_c9
        obtain ⟨x8, h_x8, h_c9⟩ := bind_get h_c9
        have h_x80 := get_nn h_x8
        have h_x81 := get_lt h_x8
        obtain rfl := Option.some.inj h_c9
        simp only [go_sem, s1, ibin_shr h_q6, ibin_shr h_q7, ielem_get h_x8, irow_get h_x8, h_x80, h_x81, hg11, hg12]
        exact hK _ _ (by first | rfl | simp only [go_sem, hg11, hg12, List.length_append, List.map_append])
    · simp only [hg11, Bool.not_true, Bool.not_false, eq_self, if_true, if_false, Bool.true_or, Bool.or_true, Bool.false_or, Bool.or_false, Bool.true_and, Bool.and_true, Bool.false_and, Bool.and_false, Bool.false_eq_true] at h_c10
      obtain rfl := Option.some.inj h_c10
      simp only [go_sem, s1, ibin_shr h_q6, hg11]
      exact hK _ _ (by first | rfl | simp only [go_sem, hg11, List.length_append, List.map_append])
  · rintro t h s4
    simp only [cw_ret, qseq_ret, qblock_ret, retQ_ret]
    obtain rfl := Option.some.inj hm0
    exact done_t (by simp only [go_sem, s4, List.length_append, List.map_append]) (frz_v _)

end Go.Nw.DM

namespace Go.Nw.DM
open Go.Nw.Door
set_option linter.unusedSimpArgs false
set_option linter.unusedVariables false
variable {O : Orac}

theorem k__circuit_state__wireD1 (hf : Has O "(newel/circuit.state).wire$1" x__circuit_state__wireD1) : C__circuit_state__wireD1 O := by
  intro self__circuit_state__wire self__circuit_state__wire_h k c0 r hm0
  unfold _circuit_state__wireD1 at hm0
  refine fn_cw hf rfl (fz_cons (frz_v _) (fz_cons (.fp _ _ (fz_cons (frz_v _) (fz_cons (frz_fs fun a _ => fz_eI a) (fz_cons (frz_fs fun a _ => fz_eWire a) (fz_cons (frz_v _) (fz_cons (frz_v _) (fz_cons (frz_v _) fz_nil))))))) fz_nil)) (frz_v _) ?_
  refine cw_start (fun t h => t 0 = I k ∧ t 1 = .fp [I c0.c.Hazards, .fs 1 (List.map eI c0.c.Switches), .fs 2 (List.map eWire c0.c.Wires), I c0.hazards, I c0.closed, I c0.open_] 0) ⟨rfl, rfl⟩ fun t h ⟨s0, s1⟩ => ?_
  simp only [x__circuit_state__wireD1]
  refine cw_reg_seq fun K hK => ?_
  simp only [go_sem]
  refine hK _ _ ?_
  clear hK K
  obtain ⟨y2, h_y2, hm0⟩ := bind_get hm0
  refine cw_reg_seq fun K hK => ?_
  simp only [go_sem, s0, s1]
  refine icall_fn (self__circuit_state__wire_h c0 k _ h_y2) ?_
  simp only [go_sem, s0, s1]
  refine hK _ _ ?_
  clear hK K
  simp only [cw_ret, qseq_ret, qblock_ret, retQ_ret]
  obtain rfl := Option.some.inj hm0
  exact done_t (by simp only [go_sem, List.length_append, List.map_append]) (frz_v _)

end Go.Nw.DM

namespace Go.Nw.DM
open Go.Nw.Door
set_option linter.unusedSimpArgs false
set_option linter.unusedVariables false
variable {O : Orac}

theorem k__circuit_state__wire_body (hf : Has O "(newel/circuit.state).wire" x__circuit_state__wire) (k__circuit_state__conducts : C__circuit_state__conducts O) (k_slices_ContainsFunc___int_int_ : C_slices_ContainsFunc___int_int_ O) (k__circuit_state__wireD1 : C__circuit_state__wireD1 O) : C__circuit_state__wire_body O := by
  intro self__circuit_state__wire self__circuit_state__wire_h s i r hm0
  unfold _circuit_state__wire_body at hm0
  refine fn_cw hf rfl (fz_cons (.agg _ (fz_cons (frz_v _) (fz_cons (frz_fs fun a _ => fz_eI a) (fz_cons (frz_fs fun a _ => fz_eWire a) (fz_cons (frz_v _) (fz_cons (frz_v _) (fz_cons (frz_v _) fz_nil))))))) (fz_cons (frz_v _) fz_nil)) (frz_v _) ?_
  refine cw_start (fun t h => t 0 = .agg [I s.c.Hazards, .fs 1 (List.map eI s.c.Switches), .fs 2 (List.map eWire s.c.Wires), I s.hazards, I s.closed, I s.open_] ∧ t 1 = I i) ⟨rfl, rfl⟩ fun t h ⟨s0, s1⟩ => ?_
  simp only [x__circuit_state__wire]
  refine cw_reg_seq fun K hK => ?_
  simp only [go_sem, s0]
  refine hK _ _ ?_
  clear hK K
  obtain ⟨x2, h_x2, hm0⟩ := bind_get hm0
  have h_x20 := get_nn h_x2
  have h_x21 := get_lt h_x2
  refine cw_reg_seq fun K hK => ?_
  simp only [go_sem, s1, ielem_get h_x2, irow_get h_x2, h_x20, h_x21]
  refine hK _ _ ?_
  clear hK K
  refine cw_assoc ?_
  refine cw_reg_seq fun K hK => ?_
  simp only [go_sem]
  refine hK _ _ ?_
  clear hK K
  refine cw_seq_k fun K3 hK3 => ?_
  simp only [cw_block]
  refine cw_reg_seq fun K hK => ?_
  simp only [go_sem]
  refine hK _ _ ?_
  clear hK K
  simp only [go_sem]
  refine ibr_intro (fun hc4 => ?_) (fun hc4 => ?_)
  · rw [if_t hc4] at hm0
    obtain ⟨x7, h_x7, hm0⟩ := bind_get hm0
    have h_x70 := get_nn h_x7
    have h_x71 := get_lt h_x7
    obtain ⟨y8, h_y8, hm0⟩ := bind_get hm0
    refine cw_reg_seq fun K hK => ?_
    simp only [go_sem, ielem_get h_x7, irow_get h_x7, h_x70, h_x71]
    refine icall_fn (k__circuit_state__conducts s x7 _ h_y8) ?_
    simp only [go_sem, ielem_get h_x7, irow_get h_x7, h_x70, h_x71]
    refine hK _ _ ?_
    clear hK K
    simp only [cw_ret, qseq_ret, qblock_ret, retQ_ret]
    obtain rfl := Option.some.inj hm0
    exact done_t (by simp only [go_sem, List.length_append, List.map_append]) (frz_v _)
  · rw [if_f hc4] at hm0
    refine cw_reg_seq fun K hK => ?_
    simp only [go_sem]
    refine hK _ _ ?_
    clear hK K
    simp only [go_sem]
    refine ibr_intro (fun hc9 => ?_) (fun hc9 => ?_)
    · rw [if_t hc9] at hm0
      obtain ⟨y13, h_y13, hm0⟩ := bind_get hm0
      refine cw_reg_seq fun K hK => ?_
      simp only [go_sem]
      refine icall_fn (k_slices_ContainsFunc___int_int_ x2.Of "(newel/circuit.state).wire" [.agg [I s.c.Hazards, .fs 1 (List.map eI s.c.Switches), .fs 2 (List.map eWire s.c.Wires), I s.hazards, I s.closed, I s.open_]] [] (fun z12 => self__circuit_state__wire s z12) (.fn _ _ _ (fz_cons (.agg _ (fz_cons (frz_v _) (fz_cons (frz_fs fun a _ => fz_eI a) (fz_cons (frz_fs fun a _ => fz_eWire a) (fz_cons (frz_v _) (fz_cons (frz_v _) (fz_cons (frz_v _) fz_nil))))))) fz_nil) fz_nil) (fun z0 y hz => self__circuit_state__wire_h s z0 y hz) _ h_y13) ?_
      simp only [go_sem]
      refine hK _ _ ?_
      clear hK K
      simp only [cw_ret, qseq_ret, qblock_ret, retQ_ret]
      obtain rfl := Option.some.inj hm0
      exact done_t (by simp only [go_sem, List.length_append, List.map_append]) (frz_v _)
    · rw [if_f hc9] at hm0
      simp only [cw_skip, qblock_normal, qseq_normal]
      refine hK3 _ _ ?_
      obtain ⟨y17, h_y17, hm0⟩ := bind_get hm0
      refine cw_reg_seq fun K hK => ?_
      simp only [go_sem]
      refine icall_fn (k_slices_ContainsFunc___int_int_ x2.Of "(newel/circuit.state).wire$1" [] [.fp [I s.c.Hazards, .fs 1 (List.map eI s.c.Switches), .fs 2 (List.map eWire s.c.Wires), I s.hazards, I s.closed, I s.open_] 0] (fun z16 => _circuit_state__wireD1 self__circuit_state__wire z16 s) (.fn _ _ _ fz_nil (fz_cons (.fp _ _ (fz_cons (frz_v _) (fz_cons (frz_fs fun a _ => fz_eI a) (fz_cons (frz_fs fun a _ => fz_eWire a) (fz_cons (frz_v _) (fz_cons (frz_v _) (fz_cons (frz_v _) fz_nil))))))) fz_nil)) (fun z0 y hz => k__circuit_state__wireD1 self__circuit_state__wire self__circuit_state__wire_h z0 s y hz) _ h_y17) ?_
      simp only [go_sem]
      refine hK _ _ ?_
      clear hK K
      simp only [cw_ret, qseq_ret, qblock_ret, retQ_ret]
      obtain rfl := Option.some.inj hm0
      exact done_t (by simp only [go_sem, List.length_append, List.map_append]) (frz_v _)

theorem k__circuit_state__wire (k__circuit_state__wire_body : C__circuit_state__wire_body O) : C__circuit_state__wire O := by
  intro n
  induction n with
  | zero => intro s i r h; cases h
  | succ n ih => exact fun s i r h => k__circuit_state__wire_body (_circuit_state__wire n) ih s i r h

end Go.Nw.DM

namespace Go.Nw.DM
open Go.Nw.Door
set_option linter.unusedSimpArgs false
set_option linter.unusedVariables false
variable {O : Orac}

theorem k_circuit_Blind (hf : Has O "newel/circuit.Blind" x_circuit_Blind) (k_circuit_check : C_circuit_check O) (k_circuit_all : C_circuit_all O) (k_circuit_elements : C_circuit_elements O) : C_circuit_Blind O := by
  intro c l r hm0
  unfold circuit_Blind at hm0
  refine fn_cw hf rfl (fz_cons (.agg _ (fz_cons (frz_v _) (fz_cons (frz_fs fun a _ => fz_eI a) (fz_cons (frz_fs fun a _ => fz_eWire a) fz_nil)))) (fz_cons (frz_fs fun a _ => fz_eTrial a) fz_nil)) (.tup _ (fz_cons (frz_fs fun a _ => fz_eI a) (fz_cons (frz_v _) fz_nil))) ?_
  refine cw_start (fun t h => t 0 = .agg [I c.Hazards, .fs 1 (List.map eI c.Switches), .fs 2 (List.map eWire c.Wires)] ∧ t 1 = .fs 2 (List.map eTrial l)) ⟨rfl, rfl⟩ fun t h ⟨s0, s1⟩ => ?_
  simp only [x_circuit_Blind]
  refine cw_reg_seq fun K hK => ?_
  simp only [go_sem, s0]
  refine hK _ _ ?_
  clear hK K
  refine cw_assoc ?_
  obtain ⟨y2, h_y2, hm0⟩ := bind_get hm0
  refine cw_reg_seq fun K hK => ?_
  simp only [go_sem, s1]
  refine icall_fn (k_circuit_check c l _ h_y2) ?_
  simp only [go_sem, s1]
  refine hK _ _ ?_
  clear hK K
  refine cw_assoc ?_
  refine cw_reg_seq fun K hK => ?_
  simp only [go_sem]
  refine hK _ _ ?_
  clear hK K
  refine cw_seq_k fun K3 hK3 => ?_
  simp only [go_sem]
  refine ibr_intro (fun hc4 => ?_) (fun hc4 => ?_)
  · rw [if_t hc4] at hm0
    refine cw_reg_seq fun K hK => ?_
    simp only [go_sem]
    refine hK _ _ ?_
    clear hK K
    simp only [cw_ret, qseq_ret, qblock_ret, retQ_ret]
    obtain rfl := Option.some.inj hm0
    exact done_fz2 (v := .v (.slice none 0 0)) (u := I y2) (by simp only [go_sem, List.length_append, List.map_append]) (by simp only [go_sem, List.length_append, List.map_append]) (.nil _) (.refl _ (frz_v _))
  · rw [if_f hc4] at hm0
    simp only [cw_skip, qblock_normal, qseq_normal]
    refine hK3 _ _ ?_
    obtain ⟨y6, h_y6, hm0⟩ := bind_get hm0
    refine cw_reg_seq fun K hK => ?_
    simp only [go_sem, s1]
    refine icall_fn (k_circuit_all c l _ h_y6) ?_
    simp only [go_sem, s1]
    refine hK _ _ ?_
    clear hK K
    obtain ⟨q9, h_q9, hm0⟩ := bind_get hm0
    obtain ⟨y10, h_y10, hm0⟩ := bind_get hm0
    refine cw_reg_seq fun K hK => ?_
    simp only [go_sem, ibin_shl h_q9]
    refine icall_fn (k_circuit_elements (bclr (wr (q9 - 1)) y6.2) _ h_y10) ?_
    simp only [go_sem, ibin_shl h_q9]
    refine hK _ _ ?_
    clear hK K
    simp only [cw_ret, qseq_ret, qblock_ret, retQ_ret]
    obtain rfl := Option.some.inj hm0
    exact done_t2 (by simp only [go_sem, List.length_append, List.map_append]) (by simp only [go_sem, List.length_append, List.map_append]) (frz_fs fun a _ => fz_eI a) (frz_v _)

end Go.Nw.DM

namespace Go.Nw.DM
open Go.Nw.Door
set_option linter.unusedSimpArgs false
set_option linter.unusedVariables false
variable {O : Orac}

theorem k_circuit_Check (hf : Has O "newel/circuit.Check" x_circuit_Check) (k_slices_Contains___bool_bool_ : C_slices_Contains___bool_bool_ O) (k_slices_ContainsFunc___int_int_ : C_slices_ContainsFunc___int_int_ O) (k_circuit_CheckD1 : C_circuit_CheckD1 O) (k_circuit_ascending : C_circuit_ascending O) (k_circuit_CheckD2 : C_circuit_CheckD2 O) : C_circuit_Check O := by
  intro c r hm0
  unfold circuit_Check at hm0
  refine fn_cw hf rfl (fz_cons (.agg _ (fz_cons (frz_v _) (fz_cons (frz_fs fun a _ => fz_eI a) (fz_cons (frz_fs fun a _ => fz_eWire a) fz_nil)))) fz_nil) (frz_v _) ?_
  refine cw_start (fun t h => t 0 = .agg [I c.Hazards, .fs 1 (List.map eI c.Switches), .fs 2 (List.map eWire c.Wires)]) rfl fun t h s0 => ?_
  simp only [x_circuit_Check]
  refine cw_reg_seq fun K hK => ?_
  simp only [go_sem, s0]
  refine hK _ _ ?_
  clear hK K
  refine cw_reg_postK (fun t h => ∃ i3 : Nat, t 1 = .fp [I c.Hazards, .fs 1 (List.map eI c.Switches), .fs 2 (List.map eWire c.Wires)] 0 ∧ t 3 = .rs i3 0 (List.length ([(decide (1 ≤ c.Hazards)) && (decide (c.Hazards ≤ 8)), (decide (1 ≤ (List.length c.Switches : Int))) && (decide ((List.length c.Switches : Int) ≤ 12)), (decide (1 ≤ (List.length c.Wires : Int))) && (decide ((List.length c.Wires : Int) ≤ 24))])) ∧ h.ob i3 = some (1, List.map eB ([(decide (1 ≤ c.Hazards)) && (decide (c.Hazards ≤ 8)), (decide (1 ≤ (List.length c.Switches : Int))) && (decide ((List.length c.Switches : Int) ≤ 12)), (decide (1 ≤ (List.length c.Wires : Int))) && (decide ((List.length c.Wires : Int) ≤ 24))])) ∧ i3 < h.nx) (fun K hK => ?_) ?_
  · simp only [go_sem]
    refine ibr_intro (fun hg1 => ?_) (fun hg1 => ?_)
    · simp only [go_sem, hg1]
      refine ibr_intro (fun hg2 => ?_) (fun hg2 => ?_)
      · simp only [go_sem, hg1, hg2]
        refine ibr_intro (fun hg3 => ?_) (fun hg3 => ?_)
        · simp only [go_sem, hg1, hg2, hg3]
          exact hK _ _ ⟨h.nx, (by first | rfl | simp only [go_sem, hg1, hg2, hg3, List.length_append, List.map_append]), (by first | rfl | simp only [go_sem, hg1, hg2, hg3, List.length_append, List.map_append]), (by simp only [go_sem, hg1, hg2, hg3, List.length_append, List.map_append]), (by simp only [go_sem])⟩
        · simp only [go_sem, hg1, hg2, hg3]
          exact hK _ _ ⟨h.nx, (by first | rfl | simp only [go_sem, hg1, hg2, hg3, List.length_append, List.map_append]), (by first | rfl | simp only [go_sem, hg1, hg2, hg3, List.length_append, List.map_append]), (by simp only [go_sem, hg1, hg2, hg3, List.length_append, List.map_append]), (by simp only [go_sem])⟩
      · simp only [go_sem, hg1, hg2]
        refine ibr_intro (fun hg4 => ?_) (fun hg4 => ?_)
        · simp only [go_sem, hg1, hg2, hg4]
          exact hK _ _ ⟨h.nx, (by first | rfl | simp only [go_sem, hg1, hg2, hg4, List.length_append, List.map_append]), (by first | rfl | simp only [go_sem, hg1, hg2, hg4, List.length_append, List.map_append]), (by simp only [go_sem, hg1, hg2, hg4, List.length_append, List.map_append]), (by simp only [go_sem])⟩
        · simp only [go_sem, hg1, hg2, hg4]
          exact hK _ _ ⟨h.nx, (by first | rfl | simp only [go_sem, hg1, hg2, hg4, List.length_append, List.map_append]), (by first | rfl | simp only [go_sem, hg1, hg2, hg4, List.length_append, List.map_append]), (by simp only [go_sem, hg1, hg2, hg4, List.length_append, List.map_append]), (by simp only [go_sem])⟩
    · simp only [go_sem, hg1]
      refine ibr_intro (fun hg5 => ?_) (fun hg5 => ?_)
      · simp only [go_sem, hg1, hg5]
        refine ibr_intro (fun hg6 => ?_) (fun hg6 => ?_)
        · simp only [go_sem, hg1, hg5, hg6]
          exact hK _ _ ⟨h.nx, (by first | rfl | simp only [go_sem, hg1, hg5, hg6, List.length_append, List.map_append]), (by first | rfl | simp only [go_sem, hg1, hg5, hg6, List.length_append, List.map_append]), (by simp only [go_sem, hg1, hg5, hg6, List.length_append, List.map_append]), (by simp only [go_sem])⟩
        · simp only [go_sem, hg1, hg5, hg6]
          exact hK _ _ ⟨h.nx, (by first | rfl | simp only [go_sem, hg1, hg5, hg6, List.length_append, List.map_append]), (by first | rfl | simp only [go_sem, hg1, hg5, hg6, List.length_append, List.map_append]), (by simp only [go_sem, hg1, hg5, hg6, List.length_append, List.map_append]), (by simp only [go_sem])⟩
      · simp only [go_sem, hg1, hg5]
        refine ibr_intro (fun hg7 => ?_) (fun hg7 => ?_)
        · simp only [go_sem, hg1, hg5, hg7]
          exact hK _ _ ⟨h.nx, (by first | rfl | simp only [go_sem, hg1, hg5, hg7, List.length_append, List.map_append]), (by first | rfl | simp only [go_sem, hg1, hg5, hg7, List.length_append, List.map_append]), (by simp only [go_sem, hg1, hg5, hg7, List.length_append, List.map_append]), (by simp only [go_sem])⟩
        · simp only [go_sem, hg1, hg5, hg7]
          exact hK _ _ ⟨h.nx, (by first | rfl | simp only [go_sem, hg1, hg5, hg7, List.length_append, List.map_append]), (by first | rfl | simp only [go_sem, hg1, hg5, hg7, List.length_append, List.map_append]), (by simp only [go_sem, hg1, hg5, hg7, List.length_append, List.map_append]), (by simp only [go_sem])⟩
  · rintro t h ⟨i3, s1, s3, ob_o3, lt_o3⟩
    refine cw_assoc ?_
    obtain ⟨y12, h_y12, hm0⟩ := bind_get hm0
    obtain ⟨c15, h_c15, hm0⟩ := bind_get hm0
    refine cw_reg_postK (fun t h => t 1 = .fp [I c.Hazards, .fs 1 (List.map eI c.Switches), .fs 2 (List.map eWire c.Wires)] 0 ∧ t 45 = B c15) (fun K hK => ?_) ?_
    · simp only [go_sem, s1, s3, ob_o3, lt_o3]
      refine icall_fz ?_ (k_slices_Contains___bool_bool_ ([(decide (1 ≤ c.Hazards)) && (decide (c.Hazards ≤ 8)), (decide (1 ≤ (List.length c.Switches : Int))) && (decide ((List.length c.Switches : Int) ≤ 12)), (decide (1 ≤ (List.length c.Wires : Int))) && (decide ((List.length c.Wires : Int) ≤ 24))]) false _ h_y12) (.v _) ?_
      · exact .cons (fz_rs (f := eB) (l := ([(decide (1 ≤ c.Hazards)) && (decide (c.Hazards ≤ 8)), (decide (1 ≤ (List.length c.Switches : Int))) && (decide ((List.length c.Switches : Int) ≤ 12)), (decide (1 ≤ (List.length c.Wires : Int))) && (decide ((List.length c.Wires : Int) ≤ 24))])) (by simp only [go_sem, ob_o3, lt_o3, List.length_append, List.map_append]) (by first | rfl | simp only [go_sem, List.length_append, List.map_append]) fz_eB ln_eB) (.cons (.refl _ (frz_v _)) (.nil))
      simp only [go_sem, s1, s3, ob_o3, lt_o3]
      refine ibr_intro (fun hg16 => ?_) (fun hg16 => ?_)
      · simp only [hg16, Bool.not_true, Bool.not_false, eq_self, if_true, if_false, Bool.true_or, Bool.or_true, Bool.false_or, Bool.or_false, Bool.true_and, Bool.and_true, Bool.false_and, Bool.and_false, Bool.false_eq_true] at h_c15
        obtain rfl := Option.some.inj h_c15
        simp only [go_sem, s1, s3, ob_o3, lt_o3, hg16]
        exact hK _ _ ⟨s1, (by first | rfl | simp only [go_sem, hg16, List.length_append, List.map_append])⟩
      · simp only [hg16, Bool.not_true, Bool.not_false, eq_self, if_true, if_false, Bool.true_or, Bool.or_true, Bool.false_or, Bool.or_false, Bool.true_and, Bool.and_true, Bool.false_and, Bool.and_false, Bool.false_eq_true] at h_c15
        obtain ⟨y14, h_y14, h_c15⟩ := bind_get h_c15
        obtain rfl := Option.some.inj h_c15
        simp only [go_sem, s1, s3, ob_o3, lt_o3, hg16]
        refine icall_fn (k_slices_ContainsFunc___int_int_ c.Switches "newel/circuit.Check$1" [] [.fp [I c.Hazards, .fs 1 (List.map eI c.Switches), .fs 2 (List.map eWire c.Wires)] 0] (fun z13 => circuit_CheckD1 z13 c) (.fn _ _ _ fz_nil (fz_cons (.fp _ _ (fz_cons (frz_v _) (fz_cons (frz_fs fun a _ => fz_eI a) (fz_cons (frz_fs fun a _ => fz_eWire a) fz_nil)))) fz_nil)) (fun z0 y hz => k_circuit_CheckD1 z0 c y hz) _ h_y14) ?_
        simp only [go_sem, s1, s3, ob_o3, lt_o3, hg16]
        exact hK _ _ ⟨s1, (by first | rfl | simp only [go_sem, hg16, List.length_append, List.map_append])⟩
    · rintro t h ⟨s1, s45⟩
      refine cw_seq_k fun K17 hK17 => ?_
      simp only [go_sem, s45]
      refine ibr_intro (fun hc18 => ?_) (fun hc18 => ?_)
      · rw [if_t hc18] at hm0
        refine cw_reg_seq fun K hK => ?_
        simp only [go_sem]
        refine hK _ _ ?_
        clear hK K
        simp only [cw_ret, qseq_ret, qblock_ret, retQ_ret]
        obtain rfl := Option.some.inj hm0
        exact done_t (by simp only [go_sem, List.length_append, List.map_append]) (frz_v _)
      · rw [if_f hc18] at hm0
        simp only [cw_skip, qblock_normal, qseq_normal]
        refine hK17 _ _ ?_
        obtain ⟨l20, h_l20, hm0⟩ := bind_get hm0
        refine cw_reg_seq fun K hK => ?_
        simp only [go_sem, s1]
        refine imksl_ok (f := eI) (z := 0) rfl h_l20 ?_
        simp only [go_sem, s1]
        refine hK _ _ ?_
        clear hK K
        refine cw_assoc ?_
        refine cw_reg_seq fun K hK => ?_
        simp only [go_sem, s1]
        refine hK _ _ ?_
        clear hK K
        refine cw_seq_k fun K21 hK21 => ?_
        have J22 : ∀ (held_4 : List Int) (i4 : Nat) (t : Slots) (h : Heap), t 4 = .rs i4 0 (List.length held_4) → h.ob i4 = some (1, List.map eI held_4) → i4 < h.nx → circuit_Check_j22 held_4 = some r → K21 t h := by
          intro held_4 i4 t h s4 ob_o4 lt_o4 hm0
          refine hK21 _ _ ?_
          unfold circuit_Check_j22 at hm0
          refine cw_assoc ?_
          refine cw_assoc ?_
          refine cw_ghost_own (s := 4) (v := .rs i4 0 (List.length held_4)) (f := eI) (l := held_4) (by simp only [go_sem, s4, ob_o4, lt_o4, List.length_append, List.map_append]) (own_rs (by simp only [go_sem, s4, ob_o4, lt_o4, List.length_append, List.map_append]) (by simp only [go_sem, s4, ob_o4, lt_o4, List.length_append, List.map_append]) (by simp only [go_sem, lt_o4])) fz_eI ln_eI ?_
          simp only [frzH_nil, frzH_rs]
          obtain ⟨x28, h_x28, hm0⟩ := bind_get hm0
          have h_x280 := get_nn h_x28
          have h_x281 := get_lt h_x28
          obtain ⟨c32, h_c32, hm0⟩ := bind_get hm0
          refine cw_reg_postK (fun t h => t 122 = B c32) (fun K hK => ?_) ?_
          · simp only [go_sem, s4, ielem_get h_x28, irow_get h_x28, h_x280, h_x281]
            refine ibr_intro (fun hg33 => ?_) (fun hg33 => ?_)
            · simp only [hg33, Bool.not_true, Bool.not_false, eq_self, if_true, if_false, Bool.true_or, Bool.or_true, Bool.false_or, Bool.or_false, Bool.true_and, Bool.and_true, Bool.false_and, Bool.and_false, Bool.false_eq_true] at h_c32
              obtain rfl := Option.some.inj h_c32
              simp only [go_sem, s4, ielem_get h_x28, irow_get h_x28, h_x280, h_x281, hg33]
              exact hK _ _ (by first | rfl | simp only [go_sem, hg33, List.length_append, List.map_append])
            · simp only [hg33, Bool.not_true, Bool.not_false, eq_self, if_true, if_false, Bool.true_or, Bool.or_true, Bool.false_or, Bool.or_false, Bool.true_and, Bool.and_true, Bool.false_and, Bool.and_false, Bool.false_eq_true] at h_c32
              obtain ⟨l29, h_l29, h_c32⟩ := bind_get h_c32
              obtain ⟨y31, h_y31, h_c32⟩ := bind_get h_c32
              obtain rfl := Option.some.inj h_c32
              simp only [go_sem, s4, ielem_get h_x28, irow_get h_x28, h_x280, h_x281, hg33]
              refine islc_fs (f := eI) (l := held_4) (lo := some 1) (hi := none) h_l29 ?_
              simp only [go_sem, s4, ielem_get h_x28, irow_get h_x28, h_x280, h_x281, hg33]
              refine icall_fn (k_slices_ContainsFunc___int_int_ l29 "newel/circuit.Check$2" [] [] (fun z30 => some (circuit_CheckD2 z30)) (.fn _ _ _ fz_nil fz_nil) (fun z0 y hz => by cases hz; exact k_circuit_CheckD2 z0) _ h_y31) ?_
              simp only [go_sem, s4, ielem_get h_x28, irow_get h_x28, h_x280, h_x281, hg33]
              exact hK _ _ (by first | rfl | simp only [go_sem, hg33, List.length_append, List.map_append])
          · rintro t h s122
            refine cw_seq_k fun K34 hK34 => ?_
            simp only [go_sem, s122]
            refine ibr_intro (fun hc35 => ?_) (fun hc35 => ?_)
            · rw [if_t hc35] at hm0
              refine cw_reg_seq fun K hK => ?_
              simp only [go_sem]
              refine hK _ _ ?_
              clear hK K
              simp only [cw_ret, qseq_ret, qblock_ret, retQ_ret]
              obtain rfl := Option.some.inj hm0
              exact done_t (by simp only [go_sem, List.length_append, List.map_append]) (frz_v _)
            · rw [if_f hc35] at hm0
              simp only [cw_skip, qblock_normal, qseq_normal]
              refine hK34 _ _ ?_
              refine cw_reg_seq fun K hK => ?_
              simp only [go_sem]
              refine hK _ _ ?_
              clear hK K
              simp only [cw_ret, qseq_ret, qblock_ret, retQ_ret]
              obtain rfl := Option.some.inj hm0
              exact done_t (by simp only [go_sem, List.length_append, List.map_append]) (frz_v _)
        simp only [cw_block]
        obtain ⟨b36, hl36, hm0⟩ := bind_get hm0
        refine cw_loopM hl36 (fun | (held_4, x_53), t, h => ∃ i4 : Nat, t 1 = .fp [I c.Hazards, .fs 1 (List.map eI c.Switches), .fs 2 (List.map eWire c.Wires)] 0 ∧ t 4 = .rs i4 0 (List.length held_4) ∧ t 51 = .fs 2 (List.map eWire c.Wires) ∧ t 52 = I (List.length c.Wires : Int) ∧ t 53 = I x_53 ∧ h.ob i4 = some (1, List.map eI held_4) ∧ i4 < h.nx) ?_ ?_
        · exact ⟨h.nx, s1, (by first | rfl | simp only [go_sem, List.length_append, List.map_append]), (by first | rfl | simp only [go_sem, List.length_append, List.map_append]), (by first | rfl | simp only [go_sem, List.length_append, List.map_append]), (by first | rfl | simp only [go_sem, List.length_append, List.map_append]), (by simp only [go_sem, List.length_append, List.map_append]), (by simp only [go_sem])⟩
        · rintro ⟨held_4, x_53⟩ o t h ⟨i4, s1, s4, s51, s52, s53, ob_o4, lt_o4⟩ hm1 hb36
          simp only [circuit_Check_L24] at hm1
          rw [x_circuit_Check_L24]
          refine cw_reg_seq fun K hK => ?_
          simp only [go_sem, s52, s53, lt_o4]
          refine hK _ _ ?_
          clear hK K
          refine cw_seq_k fun K37 hK37 => ?_
          simp only [go_sem]
          refine ibr_intro (fun hc38 => ?_) (fun hc38 => ?_)
          · rw [if_t hc38] at hm1
            simp only [cw_skip, qblock_normal, qseq_normal]
            refine hK37 _ _ ?_
            refine cw_seq_k fun K39 hK39 => ?_
            have J40 : ∀ (held_4_1 : List Int) (t : Slots) (h : Heap), t 1 = .fp [I c.Hazards, .fs 1 (List.map eI c.Switches), .fs 2 (List.map eWire c.Wires)] 0 → t 4 = .rs i4 0 (List.length held_4_1) → t 51 = .fs 2 (List.map eWire c.Wires) → t 52 = I (List.length c.Wires : Int) → t 53 = I x_53 → h.ob i4 = some (1, List.map eI held_4_1) → i4 < h.nx → circuit_Check_j40 x_53 held_4_1 = some o → K39 t h := by
              intro held_4_1 t h s1 s4 s51 s52 s53 ob_o4 lt_o4 hm1
              refine hK39 _ _ ?_
              unfold circuit_Check_j40 at hm1
              refine cw_reg_k fun K hK => ?_
              simp only [go_sem, s53, lt_o4]
              refine hK _ _ ?_
              clear hK K
              simp only [qblock_normal, qseq_normal]
              obtain rfl := Option.some.inj hm1
              refine ⟨_, rfl, ?_⟩
              exact ⟨i4, s1, (by first | exact s4 | simp only [go_sem, s4, List.length_append, List.map_append]), s51, s52, (by first | rfl | exact s53 | simp only [go_sem, s53, List.length_append, List.map_append]), ob_o4, lt_o4⟩
            simp only [cw_block]
            obtain ⟨x42, h_x42, hm1⟩ := bind_get hm1
            have h_x420 := get_nn h_x42
            have h_x421 := get_lt h_x42
            refine cw_reg_seq fun K hK => ?_
            simp only [go_sem, s51, s53, lt_o4, ielem_get h_x42, irow_get h_x42, h_x420, h_x421]
            refine hK _ _ ?_
            clear hK K
            refine cw_reg_seq fun K hK => ?_
            simp only [go_sem, lt_o4]
            refine hK _ _ ?_
            clear hK K
            simp only [cw_block]
            refine cw_reg_seq fun K hK => ?_
            simp only [go_sem, lt_o4]
            refine hK _ _ ?_
            clear hK K
            simp only [go_sem]
            refine ibr_intro (fun hc43 => ?_) (fun hc43 => ?_)
            · rw [if_t hc43] at hm1
              obtain ⟨c47, h_c47, hm1⟩ := bind_get hm1
              refine cw_reg_postK (fun t h => t 1 = .fp [I c.Hazards, .fs 1 (List.map eI c.Switches), .fs 2 (List.map eWire c.Wires)] 0 ∧ t 4 = .rs i4 0 (List.length held_4) ∧ t 51 = .fs 2 (List.map eWire c.Wires) ∧ t 52 = I (List.length c.Wires : Int) ∧ t 53 = I x_53 ∧ t 74 = B c47 ∧ h.ob i4 = some (1, List.map eI held_4) ∧ i4 < h.nx) (fun K hK => ?_) ?_
              · simp only [go_sem, s1, lt_o4]
                refine ibr_intro (fun hg48 => ?_) (fun hg48 => ?_)
                · simp only [hg48, Bool.not_true, Bool.not_false, eq_self, if_true, if_false, Bool.true_or, Bool.or_true, Bool.false_or, Bool.or_false, Bool.true_and, Bool.and_true, Bool.false_and, Bool.and_false, Bool.false_eq_true] at h_c47
                  obtain rfl := Option.some.inj h_c47
                  simp only [go_sem, s1, lt_o4, hg48]
                  exact hK _ _ ⟨s1, (by first | exact s4 | simp only [go_sem, s4, List.length_append, List.map_append]), s51, s52, s53, (by first | rfl | simp only [go_sem, hg48, List.length_append, List.map_append]), (by simp only [go_sem, ob_o4, lt_o4, hg48, List.length_append, List.map_append]), (by simp only [go_sem, lt_o4])⟩
                · simp only [hg48, Bool.not_true, Bool.not_false, eq_self, if_true, if_false, Bool.true_or, Bool.or_true, Bool.false_or, Bool.or_false, Bool.true_and, Bool.and_true, Bool.false_and, Bool.and_false, Bool.false_eq_true] at h_c47
                  obtain ⟨y46, h_y46, h_c47⟩ := bind_get h_c47
                  obtain rfl := Option.some.inj h_c47
                  simp only [go_sem, s1, lt_o4, hg48]
                  refine icall_fn (k_circuit_ascending x42.Of 0 (List.length c.Switches : Int) _ h_y46) ?_
                  simp only [go_sem, s1, lt_o4, hg48]
                  exact hK _ _ ⟨s1, (by first | exact s4 | simp only [go_sem, s4, List.length_append, List.map_append]), s51, s52, s53, (by first | rfl | simp only [go_sem, hg48, List.length_append, List.map_append]), (by simp only [go_sem, ob_o4, lt_o4, hg48, List.length_append, List.map_append]), (by simp only [go_sem, lt_o4])⟩
              · rintro t h ⟨s1, s4, s51, s52, s53, s74, ob_o4, lt_o4⟩
                simp only [go_sem, s74]
                refine ibr_intro (fun hc49 => ?_) (fun hc49 => ?_)
                · rw [if_t hc49] at hm1
                  refine cw_reg_seq fun K hK => ?_
                  simp only [go_sem, lt_o4]
                  refine hK _ _ ?_
                  clear hK K
                  simp only [cw_ret, qseq_ret, qblock_ret, retQ_ret]
                  obtain rfl := Option.some.inj hm1
                  obtain rfl := hb36 _ rfl
                  try dsimp only at hm0
                  obtain rfl := Option.some.inj hm0
                  exact done_t (by simp only [go_sem, ob_o4, lt_o4, List.length_append, List.map_append]) (frz_v _)
                · rw [if_f hc49] at hm1
                  simp only [cw_skip, qblock_normal, qseq_normal]
                  exact J40 held_4 _ _ s1 (by first | exact s4 | simp only [go_sem, s4, List.length_append, List.map_append]) s51 s52 s53 ob_o4 lt_o4 hm1
            · rw [if_f hc43] at hm1
              refine cw_assoc ?_
              refine cw_reg_seq fun K hK => ?_
              simp only [go_sem, lt_o4]
              refine hK _ _ ?_
              clear hK K
              refine cw_seq_k fun K50 hK50 => ?_
              have J51 : ∀ (x_75 : Bool) (i6 : Nat) (t : Slots) (h : Heap), t 1 = .fp [I c.Hazards, .fs 1 (List.map eI c.Switches), .fs 2 (List.map eWire c.Wires)] 0 → t 4 = .rs i4 0 (List.length held_4) → t 5 = I x_53 → t 6 = .rp i6 0 0 → t 51 = .fs 2 (List.map eWire c.Wires) → t 52 = I (List.length c.Wires : Int) → t 53 = I x_53 → t 75 = B x_75 → h.ob i4 = some (1, List.map eI held_4) → i4 < h.nx → h.ob i6 = some (2, [[I x42.Kind, .fs 1 (List.map eI x42.Of)]]) → i6 < h.nx → ¬i4 = i6 → circuit_Check_j51 c held_4 x_53 x42 x_75 = some o → K50 t h := by
                intro x_75 i6 t h s1 s4 s5 s6 s51 s52 s53 s75 ob_o4 lt_o4 ob_o6 lt_o6 ne_o4_o6 hm1
                refine hK50 _ _ ?_
                unfold circuit_Check_j51 at hm1
                simp only [go_sem, s75]
                refine ibr_intro (fun hc52 => ?_) (fun hc52 => ?_)
                · rw [if_t hc52] at hm1
                  refine cw_assoc ?_
                  obtain ⟨c56, h_c56, hm1⟩ := bind_get hm1
                  refine cw_reg_postK (fun t h => t 1 = .fp [I c.Hazards, .fs 1 (List.map eI c.Switches), .fs 2 (List.map eWire c.Wires)] 0 ∧ t 4 = .rs i4 0 (List.length held_4) ∧ t 6 = .rp i6 0 0 ∧ t 51 = .fs 2 (List.map eWire c.Wires) ∧ t 52 = I (List.length c.Wires : Int) ∧ t 53 = I x_53 ∧ t 98 = B c56 ∧ h.ob i4 = some (1, List.map eI held_4) ∧ i4 < h.nx ∧ h.ob i6 = some (2, [[I x42.Kind, .fs 1 (List.map eI x42.Of)]]) ∧ i6 < h.nx ∧ ¬i4 = i6) (fun K hK => ?_) ?_
                  · simp only [go_sem, s1, s5, s6, ob_o6, lt_o6, lt_o4, ne_o4_o6, nsym ne_o4_o6]
                    refine ibr_intro (fun hg57 => ?_) (fun hg57 => ?_)
                    · simp only [hg57, Bool.not_true, Bool.not_false, eq_self, if_true, if_false, Bool.true_or, Bool.or_true, Bool.false_or, Bool.or_false, Bool.true_and, Bool.and_true, Bool.false_and, Bool.and_false, Bool.false_eq_true] at h_c56
                      obtain rfl := Option.some.inj h_c56
                      simp only [go_sem, s1, s5, s6, ob_o6, lt_o6, lt_o4, ne_o4_o6, nsym ne_o4_o6, hg57]
                      exact hK _ _ ⟨s1, (by first | exact s4 | simp only [go_sem, s4, List.length_append, List.map_append]), s6, s51, s52, s53, (by first | rfl | simp only [go_sem, hg57, List.length_append, List.map_append]), ob_o4, lt_o4, ob_o6, lt_o6, (by omega)⟩
                    · simp only [go_sem, s1, s5, s6, ob_o6, lt_o6, lt_o4, ne_o4_o6, nsym ne_o4_o6, hg57]
                      refine ibr_intro (fun hg58 => ?_) (fun hg58 => ?_)
                      · simp only [hg57, hg58, Bool.not_true, Bool.not_false, eq_self, if_true, if_false, Bool.true_or, Bool.or_true, Bool.false_or, Bool.or_false, Bool.true_and, Bool.and_true, Bool.false_and, Bool.and_false, Bool.false_eq_true] at h_c56
                        obtain rfl := Option.some.inj h_c56
                        simp only [go_sem, s1, s5, s6, ob_o6, lt_o6, lt_o4, ne_o4_o6, nsym ne_o4_o6, hg57, hg58]
                        exact hK _ _ ⟨s1, (by first | exact s4 | simp only [go_sem, s4, List.length_append, List.map_append]), s6, s51, s52, s53, (by first | rfl | simp only [go_sem, hg57, hg58, List.length_append, List.map_append]), ob_o4, lt_o4, ob_o6, lt_o6, (by omega)⟩
                      · simp only [hg57, hg58, Bool.not_true, Bool.not_false, eq_self, if_true, if_false, Bool.true_or, Bool.or_true, Bool.false_or, Bool.or_false, Bool.true_and, Bool.and_true, Bool.false_and, Bool.and_false, Bool.false_eq_true] at h_c56
                        obtain ⟨y55, h_y55, h_c56⟩ := bind_get h_c56
                        obtain rfl := Option.some.inj h_c56
                        simp only [go_sem, s1, s5, s6, ob_o6, lt_o6, lt_o4, ne_o4_o6, nsym ne_o4_o6, hg57, hg58]
                        refine icall_fn (k_circuit_ascending x42.Of (wr (x_53 + 1)) (List.length c.Wires : Int) _ h_y55) ?_
                        simp only [go_sem, s1, s5, s6, ob_o6, lt_o6, lt_o4, ne_o4_o6, nsym ne_o4_o6, hg57, hg58]
                        exact hK _ _ ⟨s1, (by first | exact s4 | simp only [go_sem, s4, List.length_append, List.map_append]), s6, s51, s52, s53, (by first | rfl | simp only [go_sem, hg57, hg58, List.length_append, List.map_append]), ob_o4, lt_o4, ob_o6, lt_o6, (by omega)⟩
                  · rintro t h ⟨s1, s4, s6, s51, s52, s53, s98, ob_o4, lt_o4, ob_o6, lt_o6, ne_o4_o6⟩
                    refine cw_seq_k fun K59 hK59 => ?_
                    simp only [go_sem, s98]
                    refine ibr_intro (fun hc60 => ?_) (fun hc60 => ?_)
                    · rw [if_t hc60] at hm1
                      refine cw_reg_seq fun K hK => ?_
                      simp only [go_sem, lt_o4, lt_o6]
                      refine hK _ _ ?_
                      clear hK K
                      simp only [cw_ret, qseq_ret, qblock_ret, retQ_ret]
                      obtain rfl := Option.some.inj hm1
                      obtain rfl := hb36 _ rfl
                      try dsimp only at hm0
                      obtain rfl := Option.some.inj hm0
                      exact done_t (by simp only [go_sem, ob_o4, lt_o4, ob_o6, lt_o6, ne_o4_o6, nsym ne_o4_o6, List.length_append, List.map_append]) (frz_v _)
                    · rw [if_f hc60] at hm1
                      simp only [cw_skip, qblock_normal, qseq_normal]
                      refine hK59 _ _ ?_
                      refine cw_reg_seq fun K hK => ?_
                      simp only [go_sem, s6, ob_o6, lt_o6, lt_o4, ne_o4_o6, nsym ne_o4_o6]
                      refine hK _ _ ?_
                      clear hK K
                      simp only [cw_block]
                      obtain ⟨b61, hl61, hm1⟩ := bind_get hm1
                      refine cw_loopM hl61 (fun | (held_4_1, x_102), t, h => t 1 = .fp [I c.Hazards, .fs 1 (List.map eI c.Switches), .fs 2 (List.map eWire c.Wires)] 0 ∧ t 4 = .rs i4 0 (List.length held_4_1) ∧ t 51 = .fs 2 (List.map eWire c.Wires) ∧ t 52 = I (List.length c.Wires : Int) ∧ t 53 = I x_53 ∧ t 100 = .fs 1 (List.map eI x42.Of) ∧ t 101 = I (List.length x42.Of : Int) ∧ t 102 = I x_102 ∧ h.ob i4 = some (1, List.map eI held_4_1) ∧ i4 < h.nx) ?_ ?_
                      · exact ⟨s1, (by first | exact s4 | simp only [go_sem, s4, List.length_append, List.map_append]), s51, s52, s53, (by first | rfl | simp only [go_sem, List.length_append, List.map_append]), (by first | rfl | simp only [go_sem, List.length_append, List.map_append]), (by first | rfl | simp only [go_sem, List.length_append, List.map_append]), ob_o4, lt_o4⟩
                      · rintro ⟨held_4_1, x_102⟩ o t h ⟨s1, s4, s51, s52, s53, s100, s101, s102, ob_o4, lt_o4⟩ hm2 hb61
                        simp only [circuit_Check_L21] at hm2
                        rw [x_circuit_Check_L21]
                        refine cw_reg_seq fun K hK => ?_
                        simp only [go_sem, s101, s102, lt_o4]
                        refine hK _ _ ?_
                        clear hK K
                        refine cw_seq_k fun K62 hK62 => ?_
                        simp only [go_sem]
                        refine ibr_intro (fun hc63 => ?_) (fun hc63 => ?_)
                        · rw [if_t hc63] at hm2
                          simp only [cw_skip, qblock_normal, qseq_normal]
                          refine hK62 _ _ ?_
                          refine cw_seq_k fun K64 hK64 => ?_
                          simp only [cw_block]
                          obtain ⟨x66, h_x66, hm2⟩ := bind_get hm2
                          have h_x660 := get_nn h_x66
                          have h_x661 := get_lt h_x66
                          refine cw_reg_seq fun K hK => ?_
                          simp only [go_sem, s100, s102, lt_o4, ielem_get h_x66, irow_get h_x66, h_x660, h_x661]
                          refine hK _ _ ?_
                          clear hK K
                          obtain ⟨x68, h_x68, hm2⟩ := bind_get hm2
                          have h_x680 := get_nn h_x68
                          have h_x681 := get_lt h_x68
                          refine cw_reg_k fun K hK => ?_
                          simp only [go_sem, s4, ob_o4, lt_o4, ielem_get h_x68, irow_get h_x68, h_x680, h_x681]
                          refine hK _ _ ?_
                          clear hK K
                          simp only [qblock_normal, qseq_normal]
                          refine hK64 _ _ ?_
                          refine cw_reg_k fun K hK => ?_
                          simp only [go_sem, s102, lt_o4]
                          refine hK _ _ ?_
                          clear hK K
                          simp only [qblock_normal, qseq_normal]
                          obtain rfl := Option.some.inj hm2
                          refine ⟨_, rfl, ?_⟩
                          exact ⟨s1, (by first | exact s4 | simp only [go_sem, s4, List.length_append, List.map_append]), s51, s52, s53, s100, s101, (by first | rfl | exact s102 | simp only [go_sem, s102, List.length_append, List.map_append]), (by simp only [go_sem, ob_o4, lt_o4, List.length_append, List.map_append]), (by simp only [go_sem, lt_o4])⟩
                        · rw [if_f hc63] at hm2
                          simp only [cw_exit, qseq_exit, qblock_same, qblock_ne, qblock_normal, qseq_normal, Nat.reduceEqDiff, not_false_eq_true]
                          obtain rfl := Option.some.inj hm2
                          obtain rfl := hb61 _ rfl
                          try dsimp only at hm1
                          exact J40 held_4_1 _ _ s1 (by first | exact s4 | simp only [go_sem, s4, List.length_append, List.map_append]) s51 s52 s53 ob_o4 lt_o4 hm1
                · rw [if_f hc52] at hm1
                  refine cw_reg_seq fun K hK => ?_
                  simp only [go_sem, lt_o4, lt_o6]
                  refine hK _ _ ?_
                  clear hK K
                  simp only [cw_ret, qseq_ret, qblock_ret, retQ_ret]
                  obtain rfl := Option.some.inj hm1
                  obtain rfl := hb36 _ rfl
                  try dsimp only at hm0
                  obtain rfl := Option.some.inj hm0
                  exact done_t (by simp only [go_sem, ob_o4, lt_o4, ob_o6, lt_o6, ne_o4_o6, nsym ne_o4_o6, List.length_append, List.map_append]) (frz_v _)
              simp only [go_sem]
              refine ibr_intro (fun hc70 => ?_) (fun hc70 => ?_)
              · rw [if_t hc70] at hm1
                simp only [cw_skip, qblock_normal, qseq_normal]
                exact J51 (decide (x42.Kind = 2)) h.nx _ _ s1 (by first | exact s4 | simp only [go_sem, s4, List.length_append, List.map_append]) (by first | rfl | simp only [go_sem, List.length_append, List.map_append]) (by first | rfl | simp only [go_sem, List.length_append, List.map_append]) s51 s52 s53 (by first | rfl | simp only [go_sem, List.length_append, List.map_append]) (by simp only [go_sem, ob_o4, lt_o4, List.length_append, List.map_append]) (by simp only [go_sem, lt_o4]) (by simp only [go_sem, ob_o4, lt_o4, List.length_append, List.map_append]) (by simp only [go_sem, lt_o4]) (by omega) hm1
              · rw [if_f hc70] at hm1
                refine cw_reg_k fun K hK => ?_
                simp only [go_sem, lt_o4]
                refine hK _ _ ?_
                clear hK K
                simp only [qblock_normal, qseq_normal]
                exact J51 (decide (x42.Kind = 3)) h.nx _ _ s1 (by first | exact s4 | simp only [go_sem, s4, List.length_append, List.map_append]) (by first | rfl | simp only [go_sem, List.length_append, List.map_append]) (by first | rfl | simp only [go_sem, List.length_append, List.map_append]) s51 s52 s53 (by first | rfl | simp only [go_sem, List.length_append, List.map_append]) (by simp only [go_sem, ob_o4, lt_o4, List.length_append, List.map_append]) (by simp only [go_sem, lt_o4]) (by simp only [go_sem, ob_o4, lt_o4, List.length_append, List.map_append]) (by simp only [go_sem, lt_o4]) (by omega) hm1
          · rw [if_f hc38] at hm1
            simp only [cw_exit, qseq_exit, qblock_same, qblock_ne, qblock_normal, qseq_normal, Nat.reduceEqDiff, not_false_eq_true]
            obtain rfl := Option.some.inj hm1
            obtain rfl := hb36 _ rfl
            try dsimp only at hm0
            exact J22 held_4 i4 _ _ (by first | exact s4 | simp only [go_sem, s4, List.length_append, List.map_append]) ob_o4 lt_o4 hm0

end Go.Nw.DM

namespace Go.Nw.DM
open Go.Nw.Door
set_option linter.unusedSimpArgs false
set_option linter.unusedVariables false
variable {O : Orac}

theorem k_circuit_CheckD1 (hf : Has O "newel/circuit.Check$1" x_circuit_CheckD1) (k_circuit_isSet : C_circuit_isSet O) : C_circuit_CheckD1 O := by
  intro n c0 r hm0
  unfold circuit_CheckD1 at hm0
  refine fn_cw hf rfl (fz_cons (frz_v _) (fz_cons (.fp _ _ (fz_cons (frz_v _) (fz_cons (frz_fs fun a _ => fz_eI a) (fz_cons (frz_fs fun a _ => fz_eWire a) fz_nil)))) fz_nil)) (frz_v _) ?_
  refine cw_start (fun t h => t 0 = I n ∧ t 1 = .fp [I c0.Hazards, .fs 1 (List.map eI c0.Switches), .fs 2 (List.map eWire c0.Wires)] 0) ⟨rfl, rfl⟩ fun t h ⟨s0, s1⟩ => ?_
  simp only [x_circuit_CheckD1]
  refine cw_reg_seq fun K hK => ?_
  simp only [go_sem]
  refine hK _ _ ?_
  clear hK K
  obtain ⟨y2, h_y2, hm0⟩ := bind_get hm0
  refine cw_reg_seq fun K hK => ?_
  simp only [go_sem, s0, s1]
  refine icall_fn (k_circuit_isSet n c0.Hazards _ h_y2) ?_
  simp only [go_sem, s0, s1]
  refine hK _ _ ?_
  clear hK K
  simp only [cw_ret, qseq_ret, qblock_ret, retQ_ret]
  obtain rfl := Option.some.inj hm0
  exact done_t (by simp only [go_sem, List.length_append, List.map_append]) (frz_v _)

end Go.Nw.DM

namespace Go.Nw.DM
open Go.Nw.Door
set_option linter.unusedSimpArgs false
set_option linter.unusedVariables false
variable {O : Orac}

theorem k_circuit_CheckD2 (hf : Has O "newel/circuit.Check$2" x_circuit_CheckD2) : C_circuit_CheckD2 O := by
  intro n
  generalize hm0 : circuit_CheckD2 n = r
  unfold circuit_CheckD2 at hm0
  refine fn_cw hf rfl (fz_cons (frz_v _) fz_nil) (frz_v _) ?_
  refine cw_start (fun t h => t 0 = I n) rfl fun t h s0 => ?_
  simp only [x_circuit_CheckD2]
  refine cw_reg_seq fun K hK => ?_
  simp only [go_sem]
  refine hK _ _ ?_
  clear hK K
  refine cw_reg_seq fun K hK => ?_
  simp only [go_sem, s0]
  refine hK _ _ ?_
  clear hK K
  simp only [cw_ret, qseq_ret, qblock_ret, retQ_ret]
  obtain rfl := hm0
  exact done_t (by simp only [go_sem, List.length_append, List.map_append]) (frz_v _)

end Go.Nw.DM

namespace Go.Nw.DM
open Go.Nw.Door
set_option linter.unusedSimpArgs false
set_option linter.unusedVariables false
variable {O : Orac}

theorem k_circuit_CheckRota (hf : Has O "newel/circuit.CheckRota" x_circuit_CheckRota) (k_circuit_checkRota : C_circuit_checkRota O) (k_circuit_all : C_circuit_all O) (k_circuit_gap : C_circuit_gap O) : C_circuit_CheckRota O := by
  intro c l r_ r hm0
  unfold circuit_CheckRota at hm0
  refine fn_cw hf rfl (fz_cons (.agg _ (fz_cons (frz_v _) (fz_cons (frz_fs fun a _ => fz_eI a) (fz_cons (frz_fs fun a _ => fz_eWire a) fz_nil)))) (fz_cons (frz_fs fun a _ => fz_eTrial a) (fz_cons (.agg _ (fz_cons (frz_fs fun a _ => fz_eL_I a) (fz_cons (frz_v _) fz_nil))) fz_nil))) (.tup _ (fz_cons (frz_v _) (fz_cons (frz_v _) (fz_cons (frz_v _) (fz_cons (frz_v _) fz_nil))))) ?_
  refine cw_start (fun t h => t 0 = .agg [I c.Hazards, .fs 1 (List.map eI c.Switches), .fs 2 (List.map eWire c.Wires)] ∧ t 1 = .fs 2 (List.map eTrial l) ∧ t 2 = .agg [.fs 1 (List.map eL_I r_.Nights), I r_.Gap]) ⟨rfl, rfl, rfl⟩ fun t h ⟨s0, s1, s2⟩ => ?_
  simp only [x_circuit_CheckRota]
  refine cw_reg_seq fun K hK => ?_
  simp only [go_sem, s0, s2]
  refine hK _ _ ?_
  clear hK K
  refine cw_assoc ?_
  obtain ⟨y2, h_y2, hm0⟩ := bind_get hm0
  refine cw_reg_seq fun K hK => ?_
  simp only [go_sem, s1]
  refine icall_fn (k_circuit_checkRota c l r_ _ h_y2) ?_
  simp only [go_sem, s1]
  refine hK _ _ ?_
  clear hK K
  refine cw_assoc ?_
  refine cw_reg_seq fun K hK => ?_
  simp only [go_sem]
  refine hK _ _ ?_
  clear hK K
  refine cw_seq_k fun K3 hK3 => ?_
  simp only [go_sem]
  refine ibr_intro (fun hc4 => ?_) (fun hc4 => ?_)
  · rw [if_t hc4] at hm0
    refine cw_reg_seq fun K hK => ?_
    simp only [go_sem]
    refine hK _ _ ?_
    clear hK K
    simp only [cw_ret, qseq_ret, qblock_ret, retQ_ret]
    obtain rfl := Option.some.inj hm0
    exact done_t4 (by simp only [go_sem, List.length_append, List.map_append]) (by simp only [go_sem, List.length_append, List.map_append]) (by simp only [go_sem, List.length_append, List.map_append]) (by simp only [go_sem, List.length_append, List.map_append]) (frz_v _) (frz_v _) (frz_v _) (frz_v _)
  · rw [if_f hc4] at hm0
    simp only [cw_skip, qblock_normal, qseq_normal]
    refine hK3 _ _ ?_
    obtain ⟨y6, h_y6, hm0⟩ := bind_get hm0
    refine cw_reg_seq fun K hK => ?_
    simp only [go_sem, s1]
    refine icall_fn (k_circuit_all c l _ h_y6) ?_
    simp only [go_sem, s1]
    refine hK _ _ ?_
    clear hK K
    obtain ⟨l8, h_l8, hm0⟩ := bind_get hm0
    refine cw_reg_seq fun K hK => ?_
    simp only [go_sem]
    refine imksl_ok (f := eI) (z := 0) rfl h_l8 ?_
    simp only [go_sem]
    refine hK _ _ ?_
    clear hK K
    refine cw_assoc ?_
    refine cw_reg_seq fun K hK => ?_
    simp only [go_sem]
    refine hK _ _ ?_
    clear hK K
    refine cw_seq_k fun K9 hK9 => ?_
    have J10 : ∀ (nights_12 : List Int) (i12 : Nat) (t : Slots) (h : Heap), t 3 = .fp [I c.Hazards, .fs 1 (List.map eI c.Switches), .fs 2 (List.map eWire c.Wires)] 0 → t 5 = .fp [.fs 1 (List.map eL_I r_.Nights), I r_.Gap] 0 → t 12 = .rs i12 0 (List.length nights_12) → h.ob i12 = some (1, List.map eI nights_12) → i12 < h.nx → circuit_CheckRota_j10 c r_ nights_12 = some r → K9 t h := by
      intro nights_12 i12 t h s3 s5 s12 ob_o12 lt_o12 hm0
      refine hK9 _ _ ?_
      unfold circuit_CheckRota_j10 at hm0
      obtain ⟨y12, h_y12, hm0⟩ := bind_get hm0
      refine cw_reg_seq fun K hK => ?_
      simp only [go_sem, s3, s5, s12, ob_o12, lt_o12]
      refine icall_fz ?_ (k_circuit_gap (List.length c.Switches : Int) r_.Gap nights_12 _ h_y12) (.tup _ (ow_cons (.v _) (ow_cons (.v _) (ow_cons (.v _) ow_nil)))) ?_
      · exact .cons (.refl _ (frz_v _)) (.cons (.refl _ (frz_v _)) (.cons (fz_rs (f := eI) (l := nights_12) (by simp only [go_sem, ob_o12, lt_o12, List.length_append, List.map_append]) (by first | rfl | simp only [go_sem, List.length_append, List.map_append]) fz_eI ln_eI) (.nil)))
      simp only [go_sem, s3, s5, s12, ob_o12, lt_o12]
      refine hK _ _ ?_
      clear hK K
      refine cw_reg_seq fun K hK => ?_
      simp only [go_sem, lt_o12]
      refine hK _ _ ?_
      clear hK K
      simp only [cw_ret, qseq_ret, qblock_ret, retQ_ret]
      obtain rfl := Option.some.inj hm0
      exact done_t4 (by simp only [go_sem, ob_o12, lt_o12, List.length_append, List.map_append]) (by simp only [go_sem, ob_o12, lt_o12, List.length_append, List.map_append]) (by simp only [go_sem, ob_o12, lt_o12, List.length_append, List.map_append]) (by simp only [go_sem, ob_o12, lt_o12, List.length_append, List.map_append]) (frz_v _) (frz_v _) (frz_v _) (frz_v _)
    simp only [cw_block]
    obtain ⟨b13, hl13, hm0⟩ := bind_get hm0
    refine cw_loopM hl13 (fun | (nights_12, x_37), t, h => ∃ i12 : Nat, t 3 = .fp [I c.Hazards, .fs 1 (List.map eI c.Switches), .fs 2 (List.map eWire c.Wires)] 0 ∧ t 5 = .fp [.fs 1 (List.map eL_I r_.Nights), I r_.Gap] 0 ∧ t 10 = .fs 1 (List.map eI y6.1) ∧ t 12 = .rs i12 0 (List.length nights_12) ∧ t 35 = .fs 1 (List.map eL_I r_.Nights) ∧ t 36 = I (List.length r_.Nights : Int) ∧ t 37 = I x_37 ∧ h.ob i12 = some (1, List.map eI nights_12) ∧ i12 < h.nx) ?_ ?_
    · exact ⟨h.nx, (by first | rfl | simp only [go_sem, List.length_append, List.map_append]), (by first | rfl | simp only [go_sem, List.length_append, List.map_append]), (by first | rfl | simp only [go_sem, List.length_append, List.map_append]), (by first | rfl | simp only [go_sem, List.length_append, List.map_append]), (by first | rfl | simp only [go_sem, List.length_append, List.map_append]), (by first | rfl | simp only [go_sem, List.length_append, List.map_append]), (by first | rfl | simp only [go_sem, List.length_append, List.map_append]), (by simp only [go_sem, List.length_append, List.map_append]), (by simp only [go_sem])⟩
    · rintro ⟨nights_12, x_37⟩ o t h ⟨i12, s3, s5, s10, s12, s35, s36, s37, ob_o12, lt_o12⟩ hm1 hb13
      simp only [circuit_CheckRota_L16] at hm1
      rw [x_circuit_CheckRota_L16]
      refine cw_reg_seq fun K hK => ?_
      simp only [go_sem, s36, s37, lt_o12]
      refine hK _ _ ?_
      clear hK K
      refine cw_seq_k fun K14 hK14 => ?_
      simp only [go_sem]
      refine ibr_intro (fun hc15 => ?_) (fun hc15 => ?_)
      · rw [if_t hc15] at hm1
        simp only [cw_skip, qblock_normal, qseq_normal]
        refine hK14 _ _ ?_
        refine cw_seq_k fun K16 hK16 => ?_
        have J17 : ∀ (nights_12_1 : List Int) (t : Slots) (h : Heap), t 3 = .fp [I c.Hazards, .fs 1 (List.map eI c.Switches), .fs 2 (List.map eWire c.Wires)] 0 → t 5 = .fp [.fs 1 (List.map eL_I r_.Nights), I r_.Gap] 0 → t 10 = .fs 1 (List.map eI y6.1) → t 12 = .rs i12 0 (List.length nights_12_1) → t 35 = .fs 1 (List.map eL_I r_.Nights) → t 36 = I (List.length r_.Nights : Int) → t 37 = I x_37 → h.ob i12 = some (1, List.map eI nights_12_1) → i12 < h.nx → circuit_CheckRota_j17 x_37 nights_12_1 = some o → K16 t h := by
          intro nights_12_1 t h s3 s5 s10 s12 s35 s36 s37 ob_o12 lt_o12 hm1
          refine hK16 _ _ ?_
          unfold circuit_CheckRota_j17 at hm1
          refine cw_reg_k fun K hK => ?_
          simp only [go_sem, s37, lt_o12]
          refine hK _ _ ?_
          clear hK K
          simp only [qblock_normal, qseq_normal]
          obtain rfl := Option.some.inj hm1
          refine ⟨_, rfl, ?_⟩
          exact ⟨i12, s3, s5, s10, (by first | exact s12 | simp only [go_sem, s12, List.length_append, List.map_append]), s35, s36, (by first | rfl | exact s37 | simp only [go_sem, s37, List.length_append, List.map_append]), ob_o12, lt_o12⟩
        simp only [cw_block]
        obtain ⟨x19, h_x19, hm1⟩ := bind_get hm1
        have h_x190 := get_nn h_x19
        have h_x191 := get_lt h_x19
        refine cw_reg_seq fun K hK => ?_
        simp only [go_sem, s35, s37, lt_o12, ielem_get h_x19, irow_get h_x19, h_x190, h_x191]
        refine hK _ _ ?_
        clear hK K
        refine cw_reg_seq fun K hK => ?_
        simp only [go_sem, lt_o12]
        refine hK _ _ ?_
        clear hK K
        simp only [cw_block]
        obtain ⟨b20, hl20, hm1⟩ := bind_get hm1
        refine cw_loopM hl20 (fun | (nights_12_1, x_44), t, h => t 3 = .fp [I c.Hazards, .fs 1 (List.map eI c.Switches), .fs 2 (List.map eWire c.Wires)] 0 ∧ t 5 = .fp [.fs 1 (List.map eL_I r_.Nights), I r_.Gap] 0 ∧ t 10 = .fs 1 (List.map eI y6.1) ∧ t 12 = .rs i12 0 (List.length nights_12_1) ∧ t 13 = I x_37 ∧ t 35 = .fs 1 (List.map eL_I r_.Nights) ∧ t 36 = I (List.length r_.Nights : Int) ∧ t 37 = I x_37 ∧ t 42 = .fs 1 (List.map eI x19) ∧ t 43 = I (List.length x19 : Int) ∧ t 44 = I x_44 ∧ h.ob i12 = some (1, List.map eI nights_12_1) ∧ i12 < h.nx) ?_ ?_
        · exact ⟨s3, s5, s10, (by first | exact s12 | simp only [go_sem, s12, List.length_append, List.map_append]), (by first | rfl | simp only [go_sem, List.length_append, List.map_append]), s35, s36, s37, (by first | rfl | simp only [go_sem, List.length_append, List.map_append]), (by first | rfl | simp only [go_sem, List.length_append, List.map_append]), (by first | rfl | simp only [go_sem, List.length_append, List.map_append]), ob_o12, lt_o12⟩
        · rintro ⟨nights_12_1, x_44⟩ o t h ⟨s3, s5, s10, s12, s13, s35, s36, s37, s42, s43, s44, ob_o12, lt_o12⟩ hm2 hb20
          simp only [circuit_CheckRota_L14] at hm2
          rw [x_circuit_CheckRota_L14]
          refine cw_reg_seq fun K hK => ?_
          simp only [go_sem, s43, s44, lt_o12]
          refine hK _ _ ?_
          clear hK K
          refine cw_seq_k fun K21 hK21 => ?_
          simp only [go_sem]
          refine ibr_intro (fun hc22 => ?_) (fun hc22 => ?_)
          · rw [if_t hc22] at hm2
            simp only [cw_skip, qblock_normal, qseq_normal]
            refine hK21 _ _ ?_
            refine cw_seq_k fun K23 hK23 => ?_
            simp only [cw_block]
            obtain ⟨x25, h_x25, hm2⟩ := bind_get hm2
            have h_x250 := get_nn h_x25
            have h_x251 := get_lt h_x25
            refine cw_reg_seq fun K hK => ?_
            simp only [go_sem, s42, s44, lt_o12, ielem_get h_x25, irow_get h_x25, h_x250, h_x251]
            refine hK _ _ ?_
            clear hK K
            obtain ⟨x28, h_x28, hm2⟩ := bind_get hm2
            have h_x280 := get_nn h_x28
            have h_x281 := get_lt h_x28
            obtain ⟨x29, h_x29, hm2⟩ := bind_get hm2
            have h_x290 := get_nn h_x29
            have h_x291 := get_lt h_x29
            refine cw_reg_k fun K hK => ?_
            simp only [go_sem, s10, s12, s13, ob_o12, lt_o12, ielem_get h_x28, irow_get h_x28, h_x280, h_x281, ielem_get h_x29, irow_get h_x29, h_x290, h_x291]
            refine hK _ _ ?_
            clear hK K
            simp only [qblock_normal, qseq_normal]
            refine hK23 _ _ ?_
            refine cw_reg_k fun K hK => ?_
            simp only [go_sem, s44, lt_o12]
            refine hK _ _ ?_
            clear hK K
            simp only [qblock_normal, qseq_normal]
            obtain rfl := Option.some.inj hm2
            refine ⟨_, rfl, ?_⟩
            exact ⟨s3, s5, s10, (by first | exact s12 | simp only [go_sem, s12, List.length_append, List.map_append]), s13, s35, s36, s37, s42, s43, (by first | rfl | exact s44 | simp only [go_sem, s44, List.length_append, List.map_append]), (by simp only [go_sem, ob_o12, lt_o12, List.length_append, List.map_append]), (by simp only [go_sem, lt_o12])⟩
          · rw [if_f hc22] at hm2
            simp only [cw_exit, qseq_exit, qblock_same, qblock_ne, qblock_normal, qseq_normal, Nat.reduceEqDiff, not_false_eq_true]
            obtain rfl := Option.some.inj hm2
            obtain rfl := hb20 _ rfl
            try dsimp only at hm1
            exact J17 nights_12_1 _ _ s3 s5 s10 (by first | exact s12 | simp only [go_sem, s12, List.length_append, List.map_append]) s35 s36 s37 ob_o12 lt_o12 hm1
      · rw [if_f hc15] at hm1
        simp only [cw_exit, qseq_exit, qblock_same, qblock_ne, qblock_normal, qseq_normal, Nat.reduceEqDiff, not_false_eq_true]
        obtain rfl := Option.some.inj hm1
        obtain rfl := hb13 _ rfl
        try dsimp only at hm0
        exact J10 nights_12 i12 _ _ s3 s5 (by first | exact s12 | simp only [go_sem, s12, List.length_append, List.map_append]) ob_o12 lt_o12 hm0

end Go.Nw.DM

namespace Go.Nw.DM
open Go.Nw.Door
set_option linter.unusedSimpArgs false
set_option linter.unusedVariables false
variable {O : Orac}

theorem k_circuit_Critical (hf : Has O "newel/circuit.Critical" x_circuit_Critical) (k_circuit_Check : C_circuit_Check O) (k_circuit_weak : C_circuit_weak O) : C_circuit_Critical O := by
  intro c r hm0
  unfold circuit_Critical at hm0
  refine fn_cw hf rfl (fz_cons (.agg _ (fz_cons (frz_v _) (fz_cons (frz_fs fun a _ => fz_eI a) (fz_cons (frz_fs fun a _ => fz_eWire a) fz_nil)))) fz_nil) (.tup _ (fz_cons (frz_fs fun a _ => fz_eI a) (fz_cons (frz_v _) fz_nil))) ?_
  refine cw_start (fun t h => t 0 = .agg [I c.Hazards, .fs 1 (List.map eI c.Switches), .fs 2 (List.map eWire c.Wires)]) rfl fun t h s0 => ?_
  simp only [x_circuit_Critical]
  refine cw_reg_seq fun K hK => ?_
  simp only [go_sem, s0]
  refine hK _ _ ?_
  clear hK K
  refine cw_assoc ?_
  obtain ⟨y2, h_y2, hm0⟩ := bind_get hm0
  refine cw_reg_seq fun K hK => ?_
  simp only [go_sem]
  refine icall_fn (k_circuit_Check c _ h_y2) ?_
  simp only [go_sem]
  refine hK _ _ ?_
  clear hK K
  refine cw_assoc ?_
  refine cw_reg_seq fun K hK => ?_
  simp only [go_sem]
  refine hK _ _ ?_
  clear hK K
  refine cw_seq_k fun K3 hK3 => ?_
  simp only [go_sem]
  refine ibr_intro (fun hc4 => ?_) (fun hc4 => ?_)
  · rw [if_t hc4] at hm0
    refine cw_reg_seq fun K hK => ?_
    simp only [go_sem]
    refine hK _ _ ?_
    clear hK K
    simp only [cw_ret, qseq_ret, qblock_ret, retQ_ret]
    obtain rfl := Option.some.inj hm0
    exact done_fz2 (v := .v (.slice none 0 0)) (u := I y2) (by simp only [go_sem, List.length_append, List.map_append]) (by simp only [go_sem, List.length_append, List.map_append]) (.nil _) (.refl _ (frz_v _))
  · rw [if_f hc4] at hm0
    simp only [cw_skip, qblock_normal, qseq_normal]
    refine hK3 _ _ ?_
    refine cw_reg_seq fun K hK => ?_
    simp only [go_sem]
    refine hK _ _ ?_
    clear hK K
    refine cw_assoc ?_
    refine cw_reg_seq fun K hK => ?_
    simp only [go_sem]
    refine hK _ _ ?_
    clear hK K
    refine cw_seq_k fun K5 hK5 => ?_
    have J6 : ∀ (out_5 : List Int) (v5 : AV) (t : Slots) (h : Heap), t 5 = v5 → OwnS h v5 1 (List.map eI out_5) → circuit_Critical_j6 out_5 = some r → K5 t h := by
      intro out_5 v5 t h s5 ow_o5 hm0
      refine hK5 _ _ ?_
      unfold circuit_Critical_j6 at hm0
      refine cw_reg_seq fun K hK => ?_
      simp only [go_sem, s5, istr_of v5]
      refine hK _ _ ?_
      clear hK K
      simp only [cw_ret, qseq_ret, qblock_ret, retQ_ret]
      obtain rfl := Option.some.inj hm0
      exact done_fz2 (v := v5) (u := I 0) (by simp only [go_sem, List.length_append, List.map_append]) (by simp only [go_sem, List.length_append, List.map_append]) (fz_own (f := eI) (l := out_5) (own_later ow_o5 (by intro j hj hl; first | rfl | simp only [go_sem, hl]) (by first | omega | (simp only [go_sem, nxs]; omega))) fz_eI ln_eI) (.refl _ (frz_v _))
    simp only [cw_block]
    obtain ⟨b7, hl7, hm0⟩ := bind_get hm0
    refine cw_loopM hl7 (fun | (out_5, x_15), t, h => ∃ v5 : AV, t 1 = .fp [I c.Hazards, .fs 1 (List.map eI c.Switches), .fs 2 (List.map eWire c.Wires)] 0 ∧ t 5 = v5 ∧ t 14 = I (List.length c.Switches : Int) ∧ t 15 = I x_15 ∧ OwnS h v5 1 (List.map eI out_5)) ?_ ?_
    · exact ⟨(.v (.slice none 0 0)), (by first | rfl | simp only [go_sem, List.length_append, List.map_append]), (by first | rfl | simp only [go_sem, List.length_append, List.map_append]), (by first | rfl | simp only [go_sem, List.length_append, List.map_append]), (by first | rfl | simp only [go_sem, List.length_append, List.map_append]), own_nil'⟩
    · rintro ⟨out_5, x_15⟩ o t h ⟨v5, s1, s5, s14, s15, ow_o5⟩ hm1 hb7
      simp only [circuit_Critical_L11] at hm1
      rw [x_circuit_Critical_L11]
      refine cw_reg_seq fun K hK => ?_
      simp only [go_sem, s14, s15, istr_of v5]
      refine hK _ _ ?_
      clear hK K
      refine cw_seq_k fun K8 hK8 => ?_
      simp only [go_sem]
      refine ibr_intro (fun hc9 => ?_) (fun hc9 => ?_)
      · rw [if_t hc9] at hm1
        simp only [cw_skip, qblock_normal, qseq_normal]
        refine hK8 _ _ ?_
        refine cw_seq_k fun K10 hK10 => ?_
        have J11 : ∀ (out_5_1 : List Int) (v5_1 : AV) (t : Slots) (h : Heap), t 1 = .fp [I c.Hazards, .fs 1 (List.map eI c.Switches), .fs 2 (List.map eWire c.Wires)] 0 → t 5 = v5_1 → t 14 = I (List.length c.Switches : Int) → t 15 = I x_15 → OwnS h v5_1 1 (List.map eI out_5_1) → circuit_Critical_j11 x_15 out_5_1 = some o → K10 t h := by
          intro out_5_1 v5_1 t h s1 s5 s14 s15 ow_o5 hm1
          refine hK10 _ _ ?_
          unfold circuit_Critical_j11 at hm1
          refine cw_reg_k fun K hK => ?_
          simp only [go_sem, s15, istr_of v5, istr_of v5_1]
          refine hK _ _ ?_
          clear hK K
          simp only [qblock_normal, qseq_normal]
          obtain rfl := Option.some.inj hm1
          refine ⟨_, rfl, ?_⟩
          exact ⟨v5_1, s1, s5, s14, (by first | rfl | exact s15 | simp only [go_sem, s15, List.length_append, List.map_append]), ow_o5⟩
        simp only [cw_block]
        refine cw_reg_seq fun K hK => ?_
        simp only [go_sem, s15, istr_of v5]
        refine hK _ _ ?_
        clear hK K
        obtain ⟨q14, h_q14, hm1⟩ := bind_get hm1
        obtain ⟨y15, h_y15, hm1⟩ := bind_get hm1
        refine cw_reg_seq fun K hK => ?_
        simp only [go_sem, s1, ibin_shl h_q14, istr_of v5]
        refine icall_fn (k_circuit_weak c q14 _ h_y15) ?_
        simp only [go_sem, s1, ibin_shl h_q14, istr_of v5]
        refine hK _ _ ?_
        clear hK K
        simp only [go_sem]
        refine ibr_intro (fun hc16 => ?_) (fun hc16 => ?_)
        · rw [if_t hc16] at hm1
          obtain ⟨l18, h_l18, hm1⟩ := bind_get hm1
          refine cw_reg_k fun K hK => ?_
          simp only [go_sem, s5, istr_of v5]
          refine iapp_own (f := eI) (l := out_5) (m := ([x_15])) ?_ ?_ ?_ ?_ h_l18 ?_
          · exact (own_later ow_o5 (by intro j hj hl; first | rfl | simp only [go_sem, hl]) (by first | omega | (simp only [go_sem, nxs]; omega)))
          · exact (ownx_rs (by simp only [go_sem, List.length_append, List.map_append]) (by simp only [go_sem, List.length_append, List.map_append]))
          · exact (nd_rs (by first | exact notid_nil | exact notid_rs (by first | omega | (simp only [nxs]; omega)) | assumption | exact own_notid (by assumption) (by first | omega | (simp only [go_sem, nxs]; omega))))
          · exact (fun _ => by simp)
          simp only [go_sem, s5, istr_of v5]
          refine hK _ _ ?_
          clear hK K
          simp only [qblock_normal, qseq_normal]
          exact J11 l18 (.rs (nxs h.nx) 0 (List.length l18)) _ _ s1 (by first | rfl | exact s5 | simp only [go_sem, s5, List.length_append, List.map_append]) s14 s15 (own_rs (by simp only [go_sem, List.length_append, List.map_append]) (by simp only [go_sem, List.length_append, List.map_append]) (by simp only [go_sem])) hm1
        · rw [if_f hc16] at hm1
          simp only [cw_skip, qblock_normal, qseq_normal]
          exact J11 out_5 v5 _ _ s1 s5 s14 s15 ow_o5 hm1
      · rw [if_f hc9] at hm1
        simp only [cw_exit, qseq_exit, qblock_same, qblock_ne, qblock_normal, qseq_normal, Nat.reduceEqDiff, not_false_eq_true]
        obtain rfl := Option.some.inj hm1
        obtain rfl := hb7 _ rfl
        try dsimp only at hm0
        exact J6 out_5 v5 _ _ s5 ow_o5 hm0

end Go.Nw.DM

namespace Go.Nw.DM
open Go.Nw.Door
set_option linter.unusedSimpArgs false
set_option linter.unusedVariables false
variable {O : Orac}

theorem k_circuit_Fewest (hf : Has O "newel/circuit.Fewest" x_circuit_Fewest) (k_circuit_check : C_circuit_check O) (k_circuit_all : C_circuit_all O) (k_circuit_elements : C_circuit_elements O) (k_slices_Compare___int_int_ : C_slices_Compare___int_int_ O) : C_circuit_Fewest O := by
  intro c l r hm0
  unfold circuit_Fewest at hm0
  refine fn_cw hf rfl (fz_cons (.agg _ (fz_cons (frz_v _) (fz_cons (frz_fs fun a _ => fz_eI a) (fz_cons (frz_fs fun a _ => fz_eWire a) fz_nil)))) (fz_cons (frz_fs fun a _ => fz_eTrial a) fz_nil)) (.tup _ (fz_cons (frz_fs fun a _ => fz_eI a) (fz_cons (frz_v _) fz_nil))) ?_
  refine cw_start (fun t h => t 0 = .agg [I c.Hazards, .fs 1 (List.map eI c.Switches), .fs 2 (List.map eWire c.Wires)] ∧ t 1 = .fs 2 (List.map eTrial l)) ⟨rfl, rfl⟩ fun t h ⟨s0, s1⟩ => ?_
  simp only [x_circuit_Fewest]
  refine cw_reg_seq fun K hK => ?_
  simp only [go_sem, s0]
  refine hK _ _ ?_
  clear hK K
  refine cw_assoc ?_
  obtain ⟨y2, h_y2, hm0⟩ := bind_get hm0
  refine cw_reg_seq fun K hK => ?_
  simp only [go_sem, s1]
  refine icall_fn (k_circuit_check c l _ h_y2) ?_
  simp only [go_sem, s1]
  refine hK _ _ ?_
  clear hK K
  refine cw_assoc ?_
  refine cw_reg_seq fun K hK => ?_
  simp only [go_sem]
  refine hK _ _ ?_
  clear hK K
  refine cw_seq_k fun K3 hK3 => ?_
  simp only [go_sem]
  refine ibr_intro (fun hc4 => ?_) (fun hc4 => ?_)
  · rw [if_t hc4] at hm0
    refine cw_reg_seq fun K hK => ?_
    simp only [go_sem]
    refine hK _ _ ?_
    clear hK K
    simp only [cw_ret, qseq_ret, qblock_ret, retQ_ret]
    obtain rfl := Option.some.inj hm0
    exact done_fz2 (v := .v (.slice none 0 0)) (u := I y2) (by simp only [go_sem, List.length_append, List.map_append]) (by simp only [go_sem, List.length_append, List.map_append]) (.nil _) (.refl _ (frz_v _))
  · rw [if_f hc4] at hm0
    simp only [cw_skip, qblock_normal, qseq_normal]
    refine hK3 _ _ ?_
    obtain ⟨y6, h_y6, hm0⟩ := bind_get hm0
    refine cw_reg_seq fun K hK => ?_
    simp only [go_sem, s1]
    refine icall_fn (k_circuit_all c l _ h_y6) ?_
    simp only [go_sem, s1]
    refine hK _ _ ?_
    clear hK K
    refine cw_reg_seq fun K hK => ?_
    simp only [go_sem]
    refine hK _ _ ?_
    clear hK K
    refine cw_reg_seq fun K hK => ?_
    simp only [go_sem]
    refine hK _ _ ?_
    clear hK K
    refine cw_assoc ?_
    obtain ⟨q8, h_q8, hm0⟩ := bind_get hm0
    refine cw_reg_seq fun K hK => ?_
    simp only [go_sem, s1, ibin_shl h_q8]
    refine hK _ _ ?_
    clear hK K
    refine cw_seq_k fun K9 hK9 => ?_
    have J10 : ∀ (best_9 : Option (List Int)) (w9 : AV) (t : Slots) (h : Heap), t 9 = w9 → NilF w9 1 eI best_9 → circuit_Fewest_j10 best_9 = some r → K9 t h := by
      intro best_9 w9 t h s9 nf_w9 hm0
      refine hK9 _ _ ?_
      unfold circuit_Fewest_j10 at hm0
      refine cw_reg_seq fun K hK => ?_
      simp only [go_sem, s9, ilen_nf nf_w9, istr_of w9]
      refine hK _ _ ?_
      clear hK K
      simp only [cw_ret, qseq_ret, qblock_ret, retQ_ret]
      obtain rfl := Option.some.inj hm0
      exact done_fz2 (v := w9) (u := I 0) (by simp only [go_sem, List.length_append, List.map_append]) (by simp only [go_sem, List.length_append, List.map_append]) (fz_nf nf_w9 fz_eI) (.refl _ (frz_v _))
    simp only [cw_block]
    obtain ⟨b11, hl11, hm0⟩ := bind_get hm0
    refine cw_loopM hl11 (fun | (best_9, found_10, x_31), t, h => ∃ w9 : AV, t 7 = .fs 1 (List.map eI y6.1) ∧ t 8 = I y6.2 ∧ t 9 = w9 ∧ t 10 = B found_10 ∧ t 30 = I q8 ∧ t 31 = I x_31 ∧ NilF w9 1 eI best_9) ?_ ?_
    · exact ⟨(.v (.slice none 0 0)), (by first | rfl | simp only [go_sem, List.length_append, List.map_append]), (by first | rfl | simp only [go_sem, List.length_append, List.map_append]), (by first | rfl | simp only [go_sem, List.length_append, List.map_append]), (by first | rfl | simp only [go_sem, List.length_append, List.map_append]), (by first | rfl | simp only [go_sem, List.length_append, List.map_append]), (by first | rfl | simp only [go_sem, List.length_append, List.map_append]), (by first | assumption | exact rfl)⟩
    · rintro ⟨best_9, found_10, x_31⟩ o t h ⟨w9, s7, s8, s9, s10, s30, s31, nf_w9⟩ hm1 hb11
      simp only [circuit_Fewest_L20] at hm1
      rw [x_circuit_Fewest_L20]
      refine cw_reg_seq fun K hK => ?_
      simp only [go_sem, s30, s31, istr_of w9]
      refine hK _ _ ?_
      clear hK K
      refine cw_seq_k fun K12 hK12 => ?_
      simp only [go_sem]
      refine ibr_intro (fun hc13 => ?_) (fun hc13 => ?_)
      · rw [if_t hc13] at hm1
        simp only [cw_skip, qblock_normal, qseq_normal]
        refine hK12 _ _ ?_
        refine cw_seq_k fun K14 hK14 => ?_
        have J15 : ∀ (best_9_1 : Option (List Int)) (found_10_1 : Bool) (w9_1 : AV) (t : Slots) (h : Heap), t 7 = .fs 1 (List.map eI y6.1) → t 8 = I y6.2 → t 9 = w9_1 → t 10 = B found_10_1 → t 30 = I q8 → t 31 = I x_31 → NilF w9_1 1 eI best_9_1 → circuit_Fewest_j15 x_31 best_9_1 found_10_1 = some o → K14 t h := by
          intro best_9_1 found_10_1 w9_1 t h s7 s8 s9 s10 s30 s31 nf_w9_1 hm1
          refine hK14 _ _ ?_
          unfold circuit_Fewest_j15 at hm1
          refine cw_reg_k fun K hK => ?_
          simp only [go_sem, s31, istr_of w9, istr_of w9_1]
          refine hK _ _ ?_
          clear hK K
          simp only [qblock_normal, qseq_normal]
          obtain rfl := Option.some.inj hm1
          refine ⟨_, rfl, ?_⟩
          exact ⟨w9_1, s7, s8, s9, s10, s30, (by first | rfl | exact s31 | simp only [go_sem, s31, List.length_append, List.map_append]), (by first | assumption | exact rfl)⟩
        simp only [cw_block]
        refine cw_reg_seq fun K hK => ?_
        simp only [go_sem, s31, istr_of w9]
        refine hK _ _ ?_
        clear hK K
        obtain ⟨y17, h_y17, hm1⟩ := bind_get hm1
        refine cw_reg_seq fun K hK => ?_
        simp only [go_sem, istr_of w9]
        refine icall_fn (k_circuit_elements x_31 _ h_y17) ?_
        simp only [go_sem, istr_of w9]
        refine hK _ _ ?_
        clear hK K
        refine cw_assoc ?_
        refine cw_reg_seq fun K hK => ?_
        simp only [go_sem, istr_of w9]
        refine hK _ _ ?_
        clear hK K
        refine cw_seq_k fun K18 hK18 => ?_
        have J19 : ∀ (got_13 : Int) (t : Slots) (h : Heap), t 7 = .fs 1 (List.map eI y6.1) → t 8 = I y6.2 → t 9 = w9 → t 10 = B found_10 → t 12 = .fs 1 (List.map eI y17) → t 13 = I got_13 → t 30 = I q8 → t 31 = I x_31 → NilF w9 1 eI best_9 → circuit_Fewest_j19 y6 best_9 found_10 x_31 y17 got_13 = some o → K18 t h := by
          intro got_13 t h s7 s8 s9 s10 s12 s13 s30 s31 nf_w9 hm1
          refine hK18 _ _ ?_
          unfold circuit_Fewest_j19 at hm1
          obtain ⟨c27, h_c27, hm1⟩ := bind_get hm1
          refine cw_reg_postK (fun t h => t 7 = .fs 1 (List.map eI y6.1) ∧ t 8 = I y6.2 ∧ t 9 = w9 ∧ t 10 = B found_10 ∧ t 12 = .fs 1 (List.map eI y17) ∧ t 30 = I q8 ∧ t 31 = I x_31 ∧ t 75 = B c27 ∧ NilF w9 1 eI best_9) (fun K hK => ?_) ?_
          · simp only [go_sem, s8, s9, ilen_nf nf_w9, s10, s12, s13, istr_of w9]
            refine ibr_intro (fun hg28 => ?_) (fun hg28 => ?_)
            · simp only [hg28, Bool.not_true, Bool.not_false, eq_self, if_true, if_false, Bool.true_or, Bool.or_true, Bool.false_or, Bool.or_false, Bool.true_and, Bool.and_true, Bool.false_and, Bool.and_false, Bool.false_eq_true] at h_c27
              obtain ⟨c26, h_c26, h_c27⟩ := bind_get h_c27
              obtain rfl := Option.some.inj h_c27
              simp only [go_sem, s8, s9, ilen_nf nf_w9, s10, s12, s13, hg28, istr_of w9]
              refine ibr_intro (fun hg29 => ?_) (fun hg29 => ?_)
              · simp only [hg28, hg29, Bool.not_true, Bool.not_false, eq_self, if_true, if_false, Bool.true_or, Bool.or_true, Bool.false_or, Bool.or_false, Bool.true_and, Bool.and_true, Bool.false_and, Bool.and_false, Bool.false_eq_true] at h_c26
                obtain rfl := Option.some.inj h_c26
                simp only [go_sem, s8, s9, ilen_nf nf_w9, s10, s12, s13, hg28, hg29, istr_of w9]
                exact hK _ _ ⟨s7, s8, s9, s10, s12, s30, s31, (by first | rfl | simp only [go_sem, hg28, hg29, List.length_append, List.map_append]), (by first | assumption | exact rfl)⟩
              · simp only [go_sem, s8, s9, ilen_nf nf_w9, s10, s12, s13, hg28, hg29, istr_of w9]
                refine ibr_intro (fun hg30 => ?_) (fun hg30 => ?_)
                · simp only [hg28, hg29, hg30, Bool.not_true, Bool.not_false, eq_self, if_true, if_false, Bool.true_or, Bool.or_true, Bool.false_or, Bool.or_false, Bool.true_and, Bool.and_true, Bool.false_and, Bool.and_false, Bool.false_eq_true] at h_c26
                  obtain rfl := Option.some.inj h_c26
                  simp only [go_sem, s8, s9, ilen_nf nf_w9, s10, s12, s13, hg28, hg29, hg30, istr_of w9]
                  exact hK _ _ ⟨s7, s8, s9, s10, s12, s30, s31, (by first | rfl | simp only [go_sem, hg28, hg29, hg30, List.length_append, List.map_append]), (by first | assumption | exact rfl)⟩
                · simp only [hg28, hg29, hg30, Bool.not_true, Bool.not_false, eq_self, if_true, if_false, Bool.true_or, Bool.or_true, Bool.false_or, Bool.or_false, Bool.true_and, Bool.and_true, Bool.false_and, Bool.and_false, Bool.false_eq_true] at h_c26
                  obtain ⟨c25, h_c25, h_c26⟩ := bind_get h_c26
                  obtain rfl := Option.some.inj h_c26
                  simp only [go_sem, s8, s9, ilen_nf nf_w9, s10, s12, s13, hg28, hg29, hg30, istr_of w9]
                  refine ibr_intro (fun hg31 => ?_) (fun hg31 => ?_)
                  · simp only [hg28, hg29, hg30, hg31, Bool.not_true, Bool.not_false, eq_self, if_true, if_false, Bool.true_or, Bool.or_true, Bool.false_or, Bool.or_false, Bool.true_and, Bool.and_true, Bool.false_and, Bool.and_false, Bool.false_eq_true] at h_c25
                    obtain ⟨y24, h_y24, h_c25⟩ := bind_get h_c25
                    obtain rfl := Option.some.inj h_c25
                    simp only [go_sem, s8, s9, ilen_nf nf_w9, s10, s12, s13, hg28, hg29, hg30, hg31, istr_of w9]
                    refine icall_fn2 ?_ (fz_cons (frz_fs fun a _ => fz_eI a) (fz_cons (frz_nf nf_w9 fz_eI) fz_nil)) (k_slices_Compare___int_int_ y17 (Option.getD best_9 []) _ h_y24) ?_
                    · exact .cons (.refl _ (frz_fs fun a _ => fz_eI a)) (.cons (fz_nf nf_w9 fz_eI) (.nil))
                    simp only [go_sem, s8, s9, ilen_nf nf_w9, s10, s12, s13, hg28, hg29, hg30, hg31, istr_of w9]
                    exact hK _ _ ⟨s7, s8, s9, s10, s12, s30, s31, (by first | rfl | simp only [go_sem, hg28, hg29, hg30, hg31, List.length_append, List.map_append]), (by first | assumption | exact rfl)⟩
                  · simp only [hg28, hg29, hg30, hg31, Bool.not_true, Bool.not_false, eq_self, if_true, if_false, Bool.true_or, Bool.or_true, Bool.false_or, Bool.or_false, Bool.true_and, Bool.and_true, Bool.false_and, Bool.and_false, Bool.false_eq_true] at h_c25
                    obtain rfl := Option.some.inj h_c25
                    simp only [go_sem, s8, s9, ilen_nf nf_w9, s10, s12, s13, hg28, hg29, hg30, hg31, istr_of w9]
                    exact hK _ _ ⟨s7, s8, s9, s10, s12, s30, s31, (by first | rfl | simp only [go_sem, hg28, hg29, hg30, hg31, List.length_append, List.map_append]), (by first | assumption | exact rfl)⟩
            · simp only [hg28, Bool.not_true, Bool.not_false, eq_self, if_true, if_false, Bool.true_or, Bool.or_true, Bool.false_or, Bool.or_false, Bool.true_and, Bool.and_true, Bool.false_and, Bool.and_false, Bool.false_eq_true] at h_c27
              obtain rfl := Option.some.inj h_c27
              simp only [go_sem, s8, s9, ilen_nf nf_w9, s10, s12, s13, hg28, istr_of w9]
              exact hK _ _ ⟨s7, s8, s9, s10, s12, s30, s31, (by first | rfl | simp only [go_sem, hg28, List.length_append, List.map_append]), (by first | assumption | exact rfl)⟩
          · rintro t h ⟨s7, s8, s9, s10, s12, s30, s31, s75, nf_w9⟩
            simp only [go_sem, s75]
            refine ibr_intro (fun hc32 => ?_) (fun hc32 => ?_)
            · rw [if_t hc32] at hm1
              refine cw_reg_k fun K hK => ?_
              simp only [go_sem, s12, istr_of w9]
              refine hK _ _ ?_
              clear hK K
              simp only [qblock_normal, qseq_normal]
              exact J15 (some y17) true (.fs 1 (List.map eI y17)) _ _ s7 s8 (by first | rfl | exact s9 | simp only [go_sem, s9, List.length_append, List.map_append]) (by first | rfl | exact s10 | simp only [go_sem, s10, List.length_append, List.map_append]) s30 s31 (by first | assumption | exact rfl) hm1
            · rw [if_f hc32] at hm1
              simp only [cw_skip, qblock_normal, qseq_normal]
              exact J15 best_9 found_10 w9 _ _ s7 s8 s9 s10 s30 s31 (by first | assumption | exact rfl) hm1
        simp only [cw_block]
        obtain ⟨b33, hl33, hm1⟩ := bind_get hm1
        refine cw_loopM hl33 (fun | (got_13, x_38), t, h => t 7 = .fs 1 (List.map eI y6.1) ∧ t 8 = I y6.2 ∧ t 9 = w9 ∧ t 10 = B found_10 ∧ t 12 = .fs 1 (List.map eI y17) ∧ t 13 = I got_13 ∧ t 30 = I q8 ∧ t 31 = I x_31 ∧ t 36 = .fs 1 (List.map eI y17) ∧ t 37 = I (List.length y17 : Int) ∧ t 38 = I x_38 ∧ NilF w9 1 eI best_9) ?_ ?_
        · exact ⟨s7, s8, s9, s10, (by first | rfl | simp only [go_sem, List.length_append, List.map_append]), (by first | rfl | simp only [go_sem, List.length_append, List.map_append]), s30, s31, (by first | rfl | simp only [go_sem, List.length_append, List.map_append]), (by first | rfl | simp only [go_sem, List.length_append, List.map_append]), (by first | rfl | simp only [go_sem, List.length_append, List.map_append]), (by first | assumption | exact rfl)⟩
        · rintro ⟨got_13, x_38⟩ o t h ⟨s7, s8, s9, s10, s12, s13, s30, s31, s36, s37, s38, nf_w9⟩ hm2 hb33
          simp only [circuit_Fewest_L16] at hm2
          rw [x_circuit_Fewest_L16]
          refine cw_reg_seq fun K hK => ?_
          simp only [go_sem, s37, s38, istr_of w9]
          refine hK _ _ ?_
          clear hK K
          refine cw_seq_k fun K34 hK34 => ?_
          simp only [go_sem]
          refine ibr_intro (fun hc35 => ?_) (fun hc35 => ?_)
          · rw [if_t hc35] at hm2
            simp only [cw_skip, qblock_normal, qseq_normal]
            refine hK34 _ _ ?_
            refine cw_seq_k fun K36 hK36 => ?_
            simp only [cw_block]
            obtain ⟨x38, h_x38, hm2⟩ := bind_get hm2
            have h_x380 := get_nn h_x38
            have h_x381 := get_lt h_x38
            refine cw_reg_seq fun K hK => ?_
            simp only [go_sem, s36, s38, ielem_get h_x38, irow_get h_x38, h_x380, h_x381, istr_of w9]
            refine hK _ _ ?_
            clear hK K
            obtain ⟨x40, h_x40, hm2⟩ := bind_get hm2
            have h_x400 := get_nn h_x40
            have h_x401 := get_lt h_x40
            refine cw_reg_k fun K hK => ?_
            simp only [go_sem, s7, s13, ielem_get h_x40, irow_get h_x40, h_x400, h_x401, istr_of w9]
            refine hK _ _ ?_
            clear hK K
            simp only [qblock_normal, qseq_normal]
            refine hK36 _ _ ?_
            refine cw_reg_k fun K hK => ?_
            simp only [go_sem, s38, istr_of w9]
            refine hK _ _ ?_
            clear hK K
            simp only [qblock_normal, qseq_normal]
            obtain rfl := Option.some.inj hm2
            refine ⟨_, rfl, ?_⟩
            exact ⟨s7, s8, s9, s10, s12, (by first | rfl | exact s13 | simp only [go_sem, s13, List.length_append, List.map_append]), s30, s31, s36, s37, (by first | rfl | exact s38 | simp only [go_sem, s38, List.length_append, List.map_append]), (by first | assumption | exact rfl)⟩
          · rw [if_f hc35] at hm2
            simp only [cw_exit, qseq_exit, qblock_same, qblock_ne, qblock_normal, qseq_normal, Nat.reduceEqDiff, not_false_eq_true]
            obtain rfl := Option.some.inj hm2
            obtain rfl := hb33 _ rfl
            try dsimp only at hm1
            exact J19 got_13 _ _ s7 s8 s9 s10 s12 s13 s30 s31 (by first | assumption | exact rfl) hm1
      · rw [if_f hc13] at hm1
        simp only [cw_exit, qseq_exit, qblock_same, qblock_ne, qblock_normal, qseq_normal, Nat.reduceEqDiff, not_false_eq_true]
        obtain rfl := Option.some.inj hm1
        obtain rfl := hb11 _ rfl
        try dsimp only at hm0
        exact J10 best_9 w9 _ _ s9 (by first | assumption | exact rfl) hm0

end Go.Nw.DM

namespace Go.Nw.DM
open Go.Nw.Door
set_option linter.unusedSimpArgs false
set_option linter.unusedVariables false
variable {O : Orac}

theorem k_circuit_Pairs (hf : Has O "newel/circuit.Pairs" x_circuit_Pairs) (k_circuit_Critical : C_circuit_Critical O) (k_slices_Contains___int_int_ : C_slices_Contains___int_int_ O) (k_circuit_weak : C_circuit_weak O) : C_circuit_Pairs O := by
  intro c r hm0
  unfold circuit_Pairs at hm0
  refine fn_cw hf rfl (fz_cons (.agg _ (fz_cons (frz_v _) (fz_cons (frz_fs fun a _ => fz_eI a) (fz_cons (frz_fs fun a _ => fz_eWire a) fz_nil)))) fz_nil) (.tup _ (fz_cons (frz_fs fun a _ => fz_eA2_I a) (fz_cons (frz_v _) fz_nil))) ?_
  refine cw_start (fun t h => t 0 = .agg [I c.Hazards, .fs 1 (List.map eI c.Switches), .fs 2 (List.map eWire c.Wires)]) rfl fun t h s0 => ?_
  simp only [x_circuit_Pairs]
  refine cw_reg_seq fun K hK => ?_
  simp only [go_sem, s0]
  refine hK _ _ ?_
  clear hK K
  obtain ⟨y2, h_y2, hm0⟩ := bind_get hm0
  refine cw_reg_seq fun K hK => ?_
  simp only [go_sem]
  refine icall_fn (k_circuit_Critical c _ h_y2) ?_
  simp only [go_sem]
  refine hK _ _ ?_
  clear hK K
  refine cw_assoc ?_
  refine cw_reg_seq fun K hK => ?_
  simp only [go_sem]
  refine hK _ _ ?_
  clear hK K
  refine cw_seq_k fun K3 hK3 => ?_
  simp only [go_sem]
  refine ibr_intro (fun hc4 => ?_) (fun hc4 => ?_)
  · rw [if_t hc4] at hm0
    refine cw_reg_seq fun K hK => ?_
    simp only [go_sem]
    refine hK _ _ ?_
    clear hK K
    simp only [cw_ret, qseq_ret, qblock_ret, retQ_ret]
    obtain rfl := Option.some.inj hm0
    exact done_fz2 (v := .v (.slice none 0 0)) (u := I y2.2) (by simp only [go_sem, List.length_append, List.map_append]) (by simp only [go_sem, List.length_append, List.map_append]) (.nil _) (.refl _ (frz_v _))
  · rw [if_f hc4] at hm0
    simp only [cw_skip, qblock_normal, qseq_normal]
    refine hK3 _ _ ?_
    refine cw_reg_seq fun K hK => ?_
    simp only [go_sem]
    refine hK _ _ ?_
    clear hK K
    refine cw_assoc ?_
    refine cw_reg_seq fun K hK => ?_
    simp only [go_sem]
    refine hK _ _ ?_
    clear hK K
    refine cw_seq_k fun K5 hK5 => ?_
    have J6 : ∀ (out_6 : List (Int × Int)) (v6 : AV) (t : Slots) (h : Heap), t 6 = v6 → OwnS h v6 2 (List.map eA2_I out_6) → circuit_Pairs_j6 out_6 = some r → K5 t h := by
      intro out_6 v6 t h s6 ow_o6 hm0
      refine hK5 _ _ ?_
      unfold circuit_Pairs_j6 at hm0
      refine cw_reg_seq fun K hK => ?_
      simp only [go_sem, s6, istr_of v6]
      refine hK _ _ ?_
      clear hK K
      simp only [cw_ret, qseq_ret, qblock_ret, retQ_ret]
      obtain rfl := Option.some.inj hm0
      exact done_fz2 (v := v6) (u := I 0) (by simp only [go_sem, List.length_append, List.map_append]) (by simp only [go_sem, List.length_append, List.map_append]) (fz_own (f := eA2_I) (l := out_6) (own_later ow_o6 (by intro j hj hl; first | rfl | simp only [go_sem, hl]) (by first | omega | (simp only [go_sem, nxs]; omega))) fz_eA2_I ln_eA2_I) (.refl _ (frz_v _))
    simp only [cw_block]
    obtain ⟨b7, hl7, hm0⟩ := bind_get hm0
    refine cw_loopM hl7 (fun | (out_6, x_20), t, h => ∃ v6 : AV, t 1 = .fp [I c.Hazards, .fs 1 (List.map eI c.Switches), .fs 2 (List.map eWire c.Wires)] 0 ∧ t 4 = .fs 1 (List.map eI y2.1) ∧ t 6 = v6 ∧ t 19 = I (List.length c.Switches : Int) ∧ t 20 = I x_20 ∧ OwnS h v6 2 (List.map eA2_I out_6)) ?_ ?_
    · exact ⟨(.v (.slice none 0 0)), (by first | rfl | simp only [go_sem, List.length_append, List.map_append]), (by first | rfl | simp only [go_sem, List.length_append, List.map_append]), (by first | rfl | simp only [go_sem, List.length_append, List.map_append]), (by first | rfl | simp only [go_sem, List.length_append, List.map_append]), (by first | rfl | simp only [go_sem, List.length_append, List.map_append]), own_nil'⟩
    · rintro ⟨out_6, x_20⟩ o t h ⟨v6, s1, s4, s6, s19, s20, ow_o6⟩ hm1 hb7
      simp only [circuit_Pairs_L15] at hm1
      rw [x_circuit_Pairs_L15]
      refine cw_reg_seq fun K hK => ?_
      simp only [go_sem, s19, s20, istr_of v6]
      refine hK _ _ ?_
      clear hK K
      refine cw_seq_k fun K8 hK8 => ?_
      simp only [go_sem]
      refine ibr_intro (fun hc9 => ?_) (fun hc9 => ?_)
      · rw [if_t hc9] at hm1
        simp only [cw_skip, qblock_normal, qseq_normal]
        refine hK8 _ _ ?_
        refine cw_seq_k fun K10 hK10 => ?_
        have J11 : ∀ (out_6_1 : List (Int × Int)) (v6_1 : AV) (t : Slots) (h : Heap), t 1 = .fp [I c.Hazards, .fs 1 (List.map eI c.Switches), .fs 2 (List.map eWire c.Wires)] 0 → t 4 = .fs 1 (List.map eI y2.1) → t 6 = v6_1 → t 19 = I (List.length c.Switches : Int) → t 20 = I x_20 → OwnS h v6_1 2 (List.map eA2_I out_6_1) → circuit_Pairs_j11 x_20 out_6_1 = some o → K10 t h := by
          intro out_6_1 v6_1 t h s1 s4 s6 s19 s20 ow_o6 hm1
          refine hK10 _ _ ?_
          unfold circuit_Pairs_j11 at hm1
          refine cw_reg_k fun K hK => ?_
          simp only [go_sem, s20, istr_of v6, istr_of v6_1]
          refine hK _ _ ?_
          clear hK K
          simp only [qblock_normal, qseq_normal]
          obtain rfl := Option.some.inj hm1
          refine ⟨_, rfl, ?_⟩
          exact ⟨v6_1, s1, s4, s6, s19, (by first | rfl | exact s20 | simp only [go_sem, s20, List.length_append, List.map_append]), ow_o6⟩
        simp only [cw_block]
        refine cw_reg_seq fun K hK => ?_
        simp only [go_sem, s20, istr_of v6]
        refine hK _ _ ?_
        clear hK K
        refine cw_reg_seq fun K hK => ?_
        simp only [go_sem, istr_of v6]
        refine hK _ _ ?_
        clear hK K
        simp only [cw_block]
        obtain ⟨b12, hl12, hm1⟩ := bind_get hm1
        refine cw_loopM hl12 (fun | (out_6_1, b_8), t, h => ∃ v6_1 : AV, t 1 = .fp [I c.Hazards, .fs 1 (List.map eI c.Switches), .fs 2 (List.map eWire c.Wires)] 0 ∧ t 4 = .fs 1 (List.map eI y2.1) ∧ t 6 = v6_1 ∧ t 7 = I x_20 ∧ t 8 = I b_8 ∧ t 19 = I (List.length c.Switches : Int) ∧ t 20 = I x_20 ∧ OwnS h v6_1 2 (List.map eA2_I out_6_1)) ?_ ?_
        · exact ⟨v6, s1, s4, s6, (by first | rfl | simp only [go_sem, List.length_append, List.map_append]), (by first | rfl | simp only [go_sem, List.length_append, List.map_append]), s19, s20, ow_o6⟩
        · rintro ⟨out_6_1, b_8⟩ o t h ⟨v6_1, s1, s4, s6, s7, s8, s19, s20, ow_o6⟩ hm2 hb12
          simp only [circuit_Pairs_L13] at hm2
          rw [x_circuit_Pairs_L13]
          refine cw_assoc ?_
          refine cw_reg_seq fun K hK => ?_
          simp only [go_sem, s1, s8, istr_of v6, istr_of v6_1]
          refine hK _ _ ?_
          clear hK K
          refine cw_seq_k fun K13 hK13 => ?_
          simp only [go_sem]
          refine ibr_intro (fun hc14 => ?_) (fun hc14 => ?_)
          · rw [if_t hc14] at hm2
            simp only [cw_skip, qblock_normal, qseq_normal]
            refine hK13 _ _ ?_
            refine cw_seq_k fun K15 hK15 => ?_
            have J16 : ∀ (out_6_2 : List (Int × Int)) (v6_2 : AV) (t : Slots) (h : Heap), t 1 = .fp [I c.Hazards, .fs 1 (List.map eI c.Switches), .fs 2 (List.map eWire c.Wires)] 0 → t 4 = .fs 1 (List.map eI y2.1) → t 6 = v6_2 → t 7 = I x_20 → t 8 = I b_8 → t 19 = I (List.length c.Switches : Int) → t 20 = I x_20 → OwnS h v6_2 2 (List.map eA2_I out_6_2) → circuit_Pairs_j16 b_8 out_6_2 = some o → K15 t h := by
              intro out_6_2 v6_2 t h s1 s4 s6 s7 s8 s19 s20 ow_o6 hm2
              refine hK15 _ _ ?_
              unfold circuit_Pairs_j16 at hm2
              refine cw_reg_k fun K hK => ?_
              simp only [go_sem, s8, istr_of v6, istr_of v6_1, istr_of v6_2]
              refine hK _ _ ?_
              clear hK K
              simp only [qblock_normal, qseq_normal]
              obtain rfl := Option.some.inj hm2
              refine ⟨_, rfl, ?_⟩
              exact ⟨v6_2, s1, s4, s6, s7, (by first | rfl | exact s8 | simp only [go_sem, s8, List.length_append, List.map_append]), s19, s20, ow_o6⟩
            simp only [cw_block]
            obtain ⟨y24, h_y24, hm2⟩ := bind_get hm2
            obtain ⟨c26, h_c26, hm2⟩ := bind_get hm2
            obtain ⟨c30, h_c30, hm2⟩ := bind_get hm2
            refine cw_reg_postK (fun t h => t 1 = .fp [I c.Hazards, .fs 1 (List.map eI c.Switches), .fs 2 (List.map eWire c.Wires)] 0 ∧ t 4 = .fs 1 (List.map eI y2.1) ∧ t 6 = v6_1 ∧ t 7 = I x_20 ∧ t 8 = I b_8 ∧ t 19 = I (List.length c.Switches : Int) ∧ t 20 = I x_20 ∧ t 52 = B c30 ∧ OwnS h v6_1 2 (List.map eA2_I out_6_1)) (fun K hK => ?_) ?_
            · simp only [go_sem, s1, s4, s7, s8, istr_of v6, istr_of v6_1]
              refine icall_fn (k_slices_Contains___int_int_ y2.1 x_20 _ h_y24) ?_
              simp only [go_sem, s1, s4, s7, s8, istr_of v6, istr_of v6_1]
              refine ibr_intro (fun hg31 => ?_) (fun hg31 => ?_)
              · simp only [hg31, Bool.not_true, Bool.not_false, eq_self, if_true, if_false, Bool.true_or, Bool.or_true, Bool.false_or, Bool.or_false, Bool.true_and, Bool.and_true, Bool.false_and, Bool.and_false, Bool.false_eq_true] at h_c26
                obtain ⟨y25, h_y25, h_c26⟩ := bind_get h_c26
                obtain rfl := Option.some.inj h_c26
                simp only [go_sem, s1, s4, s7, s8, hg31, istr_of v6, istr_of v6_1]
                refine icall_fn (k_slices_Contains___int_int_ y2.1 b_8 _ h_y25) ?_
                simp only [go_sem, s1, s4, s7, s8, hg31, istr_of v6, istr_of v6_1]
                refine ibr_intro (fun hg32 => ?_) (fun hg32 => ?_)
                · simp only [hg31, hg32, Bool.not_true, Bool.not_false, eq_self, if_true, if_false, Bool.true_or, Bool.or_true, Bool.false_or, Bool.or_false, Bool.true_and, Bool.and_true, Bool.false_and, Bool.and_false, Bool.false_eq_true] at h_c30
                  obtain ⟨q27, h_q27, h_c30⟩ := bind_get h_c30
                  obtain ⟨q28, h_q28, h_c30⟩ := bind_get h_c30
                  obtain ⟨y29, h_y29, h_c30⟩ := bind_get h_c30
                  obtain rfl := Option.some.inj h_c30
                  simp only [go_sem, s1, s4, s7, s8, ibin_shl h_q27, ibin_shl h_q28, hg31, hg32, istr_of v6, istr_of v6_1]
                  refine icall_fn (k_circuit_weak c (bor q27 q28) _ h_y29) ?_
                  simp only [go_sem, s1, s4, s7, s8, ibin_shl h_q27, ibin_shl h_q28, hg31, hg32, istr_of v6, istr_of v6_1]
                  exact hK _ _ ⟨s1, s4, s6, s7, s8, s19, s20, (by first | rfl | simp only [go_sem, hg31, hg32, List.length_append, List.map_append]), ow_o6⟩
                · simp only [hg31, hg32, Bool.not_true, Bool.not_false, eq_self, if_true, if_false, Bool.true_or, Bool.or_true, Bool.false_or, Bool.or_false, Bool.true_and, Bool.and_true, Bool.false_and, Bool.and_false, Bool.false_eq_true] at h_c30
                  obtain rfl := Option.some.inj h_c30
                  simp only [go_sem, s1, s4, s7, s8, hg31, hg32, istr_of v6, istr_of v6_1]
                  exact hK _ _ ⟨s1, s4, s6, s7, s8, s19, s20, (by first | rfl | simp only [go_sem, hg31, hg32, List.length_append, List.map_append]), ow_o6⟩
              · simp only [hg31, Bool.not_true, Bool.not_false, eq_self, if_true, if_false, Bool.true_or, Bool.or_true, Bool.false_or, Bool.or_false, Bool.true_and, Bool.and_true, Bool.false_and, Bool.and_false, Bool.false_eq_true] at h_c26
                obtain rfl := Option.some.inj h_c26
                simp only [hg31, Bool.not_true, Bool.not_false, eq_self, if_true, if_false, Bool.true_or, Bool.or_true, Bool.false_or, Bool.or_false, Bool.true_and, Bool.and_true, Bool.false_and, Bool.and_false, Bool.false_eq_true] at h_c30
                obtain rfl := Option.some.inj h_c30
                simp only [go_sem, s1, s4, s7, s8, hg31, istr_of v6, istr_of v6_1]
                exact hK _ _ ⟨s1, s4, s6, s7, s8, s19, s20, (by first | rfl | simp only [go_sem, hg31, List.length_append, List.map_append]), ow_o6⟩
            · rintro t h ⟨s1, s4, s6, s7, s8, s19, s20, s52, ow_o6⟩
              simp only [go_sem, s52]
              refine ibr_intro (fun hc33 => ?_) (fun hc33 => ?_)
              · rw [if_t hc33] at hm2
                obtain ⟨l35, h_l35, hm2⟩ := bind_get hm2
                refine cw_reg_k fun K hK => ?_
                simp only [go_sem, s6, s7, s8, istr_of v6, istr_of v6_1]
                refine iapp_own (f := eA2_I) (l := out_6_1) (m := ([(x_20, b_8)])) ?_ ?_ ?_ ?_ h_l35 ?_
                · exact (own_later ow_o6 (by intro j hj hl; first | rfl | simp only [go_sem, hl]) (by first | omega | (simp only [go_sem, nxs]; omega)))
                · exact (ownx_rs (by simp only [go_sem, List.length_append, List.map_append]) (by simp only [go_sem, List.length_append, List.map_append]))
                · exact (nd_rs (by first | exact notid_nil | exact notid_rs (by first | omega | (simp only [nxs]; omega)) | assumption | exact own_notid (by assumption) (by first | omega | (simp only [go_sem, nxs]; omega))))
                · exact (fun _ => by simp)
                simp only [go_sem, s6, s7, s8, istr_of v6, istr_of v6_1]
                refine hK _ _ ?_
                clear hK K
                simp only [qblock_normal, qseq_normal]
                exact J16 l35 (.rs (nxs h.nx) 0 (List.length l35)) _ _ s1 s4 (by first | rfl | exact s6 | simp only [go_sem, s6, List.length_append, List.map_append]) s7 s8 s19 s20 (own_rs (by simp only [go_sem, List.length_append, List.map_append]) (by simp only [go_sem, List.length_append, List.map_append]) (by simp only [go_sem])) hm2
              · rw [if_f hc33] at hm2
                simp only [cw_skip, qblock_normal, qseq_normal]
                exact J16 out_6_1 v6_1 _ _ s1 s4 s6 s7 s8 s19 s20 ow_o6 hm2
          · rw [if_f hc14] at hm2
            simp only [cw_exit, qseq_exit, qblock_same, qblock_ne, qblock_normal, qseq_normal, Nat.reduceEqDiff, not_false_eq_true]
            obtain rfl := Option.some.inj hm2
            obtain rfl := hb12 _ rfl
            try dsimp only at hm1
            exact J11 out_6_1 v6_1 _ _ s1 s4 s6 s19 s20 ow_o6 hm1
      · rw [if_f hc9] at hm1
        simp only [cw_exit, qseq_exit, qblock_same, qblock_ne, qblock_normal, qseq_normal, Nat.reduceEqDiff, not_false_eq_true]
        obtain rfl := Option.some.inj hm1
        obtain rfl := hb7 _ rfl
        try dsimp only at hm0
        exact J6 out_6 v6 _ _ s6 ow_o6 hm0

end Go.Nw.DM

namespace Go.Nw.DM
open Go.Nw.Door
set_option linter.unusedSimpArgs false
set_option linter.unusedVariables false
variable {O : Orac}

theorem k_circuit_Shows (hf : Has O "newel/circuit.Shows" x_circuit_Shows) (k_circuit_check : C_circuit_check O) (k_circuit_shown : C_circuit_shown O) (k_circuit_elements : C_circuit_elements O) : C_circuit_Shows O := by
  intro c l trial r hm0
  unfold circuit_Shows at hm0
  refine fn_cw hf rfl (fz_cons (.agg _ (fz_cons (frz_v _) (fz_cons (frz_fs fun a _ => fz_eI a) (fz_cons (frz_fs fun a _ => fz_eWire a) fz_nil)))) (fz_cons (frz_fs fun a _ => fz_eTrial a) (fz_cons (frz_v _) fz_nil))) (.tup _ (fz_cons (frz_fs fun a _ => fz_eI a) (fz_cons (frz_v _) fz_nil))) ?_
  refine cw_start (fun t h => t 0 = .agg [I c.Hazards, .fs 1 (List.map eI c.Switches), .fs 2 (List.map eWire c.Wires)] ∧ t 1 = .fs 2 (List.map eTrial l) ∧ t 2 = I trial) ⟨rfl, rfl, rfl⟩ fun t h ⟨s0, s1, s2⟩ => ?_
  simp only [x_circuit_Shows]
  refine cw_reg_seq fun K hK => ?_
  simp only [go_sem, s0]
  refine hK _ _ ?_
  clear hK K
  refine cw_assoc ?_
  obtain ⟨y2, h_y2, hm0⟩ := bind_get hm0
  refine cw_reg_seq fun K hK => ?_
  simp only [go_sem, s1]
  refine icall_fn (k_circuit_check c l _ h_y2) ?_
  simp only [go_sem, s1]
  refine hK _ _ ?_
  clear hK K
  refine cw_assoc ?_
  refine cw_reg_seq fun K hK => ?_
  simp only [go_sem]
  refine hK _ _ ?_
  clear hK K
  refine cw_seq_k fun K3 hK3 => ?_
  simp only [go_sem]
  refine ibr_intro (fun hc4 => ?_) (fun hc4 => ?_)
  · rw [if_t hc4] at hm0
    refine cw_reg_seq fun K hK => ?_
    simp only [go_sem]
    refine hK _ _ ?_
    clear hK K
    simp only [cw_ret, qseq_ret, qblock_ret, retQ_ret]
    obtain rfl := Option.some.inj hm0
    exact done_fz2 (v := .v (.slice none 0 0)) (u := I y2) (by simp only [go_sem, List.length_append, List.map_append]) (by simp only [go_sem, List.length_append, List.map_append]) (.nil _) (.refl _ (frz_v _))
  · rw [if_f hc4] at hm0
    simp only [cw_skip, qblock_normal, qseq_normal]
    refine hK3 _ _ ?_
    refine cw_assoc ?_
    refine cw_reg_postK (fun t h => t 1 = .fs 2 (List.map eTrial l) ∧ t 2 = I trial ∧ t 3 = .fp [I c.Hazards, .fs 1 (List.map eI c.Switches), .fs 2 (List.map eWire c.Wires)] 0 ∧ t 22 = B ((decide (trial < 0)) || (decide ((List.length l : Int) ≤ trial)))) (fun K hK => ?_) ?_
    · simp only [go_sem, s1, s2]
      refine ibr_intro (fun hg5 => ?_) (fun hg5 => ?_)
      · simp only [go_sem, s1, s2, hg5]
        exact hK _ _ ⟨s1, s2, (by first | rfl | simp only [go_sem, hg5, List.length_append, List.map_append]), (by first | rfl | simp only [go_sem, hg5, List.length_append, List.map_append])⟩
      · simp only [go_sem, s1, s2, hg5]
        exact hK _ _ ⟨s1, s2, (by first | rfl | simp only [go_sem, hg5, List.length_append, List.map_append]), (by first | rfl | simp only [go_sem, hg5, List.length_append, List.map_append])⟩
    · rintro t h ⟨s1, s2, s3, s22⟩
      refine cw_seq_k fun K6 hK6 => ?_
      simp only [go_sem, s22]
      refine ibr_intro (fun hc7 => ?_) (fun hc7 => ?_)
      · rw [if_t hc7] at hm0
        refine cw_reg_seq fun K hK => ?_
        simp only [go_sem]
        refine hK _ _ ?_
        clear hK K
        simp only [cw_ret, qseq_ret, qblock_ret, retQ_ret]
        obtain rfl := Option.some.inj hm0
        exact done_fz2 (v := .v (.slice none 0 0)) (u := I 1) (by simp only [go_sem, List.length_append, List.map_append]) (by simp only [go_sem, List.length_append, List.map_append]) (.nil _) (.refl _ (frz_v _))
      · rw [if_f hc7] at hm0
        simp only [cw_skip, qblock_normal, qseq_normal]
        refine hK6 _ _ ?_
        obtain ⟨x11, h_x11, hm0⟩ := bind_get hm0
        have h_x110 := get_nn h_x11
        have h_x111 := get_lt h_x11
        obtain ⟨y12, h_y12, hm0⟩ := bind_get hm0
        obtain ⟨y13, h_y13, hm0⟩ := bind_get hm0
        refine cw_reg_seq fun K hK => ?_
        simp only [go_sem, s1, s2, s3, ielem_get h_x11, irow_get h_x11, h_x110, h_x111]
        refine icall_fn (k_circuit_shown c x11 _ h_y12) ?_
        simp only [go_sem, s1, s2, s3, ielem_get h_x11, irow_get h_x11, h_x110, h_x111]
        refine icall_fn (k_circuit_elements y12 _ h_y13) ?_
        simp only [go_sem, s1, s2, s3, ielem_get h_x11, irow_get h_x11, h_x110, h_x111]
        refine hK _ _ ?_
        clear hK K
        simp only [cw_ret, qseq_ret, qblock_ret, retQ_ret]
        obtain rfl := Option.some.inj hm0
        exact done_t2 (by simp only [go_sem, List.length_append, List.map_append]) (by simp only [go_sem, List.length_append, List.map_append]) (frz_fs fun a _ => fz_eI a) (frz_v _)

end Go.Nw.DM

namespace Go.Nw.DM
open Go.Nw.Door
set_option linter.unusedSimpArgs false
set_option linter.unusedVariables false
variable {O : Orac}

theorem k_circuit_all (hf : Has O "newel/circuit.all" x_circuit_all) (k_circuit_shown : C_circuit_shown O) : C_circuit_all O := by
  intro c l r hm0
  unfold circuit_all at hm0
  refine fn_cw hf rfl (fz_cons (.agg _ (fz_cons (frz_v _) (fz_cons (frz_fs fun a _ => fz_eI a) (fz_cons (frz_fs fun a _ => fz_eWire a) fz_nil)))) (fz_cons (frz_fs fun a _ => fz_eTrial a) fz_nil)) (.tup _ (fz_cons (frz_fs fun a _ => fz_eI a) (fz_cons (frz_v _) fz_nil))) ?_
  refine cw_start (fun t h => t 0 = .agg [I c.Hazards, .fs 1 (List.map eI c.Switches), .fs 2 (List.map eWire c.Wires)] ∧ t 1 = .fs 2 (List.map eTrial l)) ⟨rfl, rfl⟩ fun t h ⟨s0, s1⟩ => ?_
  simp only [x_circuit_all]
  refine cw_reg_seq fun K hK => ?_
  simp only [go_sem, s0]
  refine hK _ _ ?_
  clear hK K
  refine cw_assoc ?_
  refine cw_reg_seq fun K hK => ?_
  simp only [go_sem, s1]
  refine hK _ _ ?_
  clear hK K
  refine cw_seq_k fun K1 hK1 => ?_
  have J2 : ∀ (each_4 : List Int) (whole_5 : Int) (v4 : AV) (t : Slots) (h : Heap), t 4 = v4 → t 5 = I whole_5 → OwnS h v4 1 (List.map eI each_4) → circuit_all_j2 each_4 whole_5 = some r → K1 t h := by
    intro each_4 whole_5 v4 t h s4 s5 ow_o4 hm0
    refine hK1 _ _ ?_
    unfold circuit_all_j2 at hm0
    refine cw_reg_seq fun K hK => ?_
    simp only [go_sem, s4, s5, istr_of v4]
    refine hK _ _ ?_
    clear hK K
    simp only [cw_ret, qseq_ret, qblock_ret, retQ_ret]
    obtain rfl := Option.some.inj hm0
    exact done_fz2 (v := v4) (u := I whole_5) (by simp only [go_sem, s4, s5, List.length_append, List.map_append]) (by simp only [go_sem, s4, s5, List.length_append, List.map_append]) (fz_own (f := eI) (l := each_4) (own_later ow_o4 (by intro j hj hl; first | rfl | simp only [go_sem, hl]) (by first | omega | (simp only [go_sem, nxs]; omega))) fz_eI ln_eI) (.refl _ (frz_v _))
  simp only [cw_block]
  obtain ⟨b3, hl3, hm0⟩ := bind_get hm0
  refine cw_loopM hl3 (fun | (each_4, whole_5, x_11), t, h => ∃ v4 : AV, t 2 = .fp [I c.Hazards, .fs 1 (List.map eI c.Switches), .fs 2 (List.map eWire c.Wires)] 0 ∧ t 4 = v4 ∧ t 5 = I whole_5 ∧ t 9 = .fs 2 (List.map eTrial l) ∧ t 10 = I (List.length l : Int) ∧ t 11 = I x_11 ∧ OwnS h v4 1 (List.map eI each_4)) ?_ ?_
  · exact ⟨(.v (.slice none 0 0)), (by first | rfl | simp only [go_sem, List.length_append, List.map_append]), (by first | rfl | simp only [go_sem, List.length_append, List.map_append]), (by first | rfl | simp only [go_sem, List.length_append, List.map_append]), (by first | rfl | simp only [go_sem, List.length_append, List.map_append]), (by first | rfl | simp only [go_sem, List.length_append, List.map_append]), (by first | rfl | simp only [go_sem, List.length_append, List.map_append]), own_nil'⟩
  · rintro ⟨each_4, whole_5, x_11⟩ o t h ⟨v4, s2, s4, s5, s9, s10, s11, ow_o4⟩ hm1 hb3
    simp only [circuit_all_L8] at hm1
    rw [x_circuit_all_L8]
    refine cw_reg_seq fun K hK => ?_
    simp only [go_sem, s10, s11, istr_of v4]
    refine hK _ _ ?_
    clear hK K
    refine cw_seq_k fun K4 hK4 => ?_
    simp only [go_sem]
    refine ibr_intro (fun hc5 => ?_) (fun hc5 => ?_)
    · rw [if_t hc5] at hm1
      simp only [cw_skip, qblock_normal, qseq_normal]
      refine hK4 _ _ ?_
      refine cw_seq_k fun K6 hK6 => ?_
      simp only [cw_block]
      obtain ⟨x8, h_x8, hm1⟩ := bind_get hm1
      have h_x80 := get_nn h_x8
      have h_x81 := get_lt h_x8
      refine cw_reg_seq fun K hK => ?_
      simp only [go_sem, s9, s11, ielem_get h_x8, irow_get h_x8, h_x80, h_x81, istr_of v4]
      refine hK _ _ ?_
      clear hK K
      obtain ⟨y10, h_y10, hm1⟩ := bind_get hm1
      refine cw_reg_seq fun K hK => ?_
      simp only [go_sem, s2, istr_of v4]
      refine icall_fn (k_circuit_shown c x8 _ h_y10) ?_
      simp only [go_sem, s2, istr_of v4]
      refine hK _ _ ?_
      clear hK K
      obtain ⟨l12, h_l12, hm1⟩ := bind_get hm1
      refine cw_reg_seq fun K hK => ?_
      simp only [go_sem, s4, istr_of v4]
      refine iapp_own (f := eI) (l := each_4) (m := ([y10])) ?_ ?_ ?_ ?_ h_l12 ?_
      · exact (own_later ow_o4 (by intro j hj hl; first | rfl | simp only [go_sem, hl]) (by first | omega | (simp only [go_sem, nxs]; omega)))
      · exact (ownx_rs (by simp only [go_sem, List.length_append, List.map_append]) (by simp only [go_sem, List.length_append, List.map_append]))
      · exact (nd_rs (by first | exact notid_nil | exact notid_rs (by first | omega | (simp only [nxs]; omega)) | assumption | exact own_notid (by assumption) (by first | omega | (simp only [go_sem, nxs]; omega))))
      · exact (fun _ => by simp)
      simp only [go_sem, s4, istr_of v4]
      refine hK _ _ ?_
      clear hK K
      refine cw_reg_k fun K hK => ?_
      simp only [go_sem, s5, istr_of v4]
      refine hK _ _ ?_
      clear hK K
      simp only [qblock_normal, qseq_normal]
      refine hK6 _ _ ?_
      refine cw_reg_k fun K hK => ?_
      simp only [go_sem, s11, istr_of v4]
      refine hK _ _ ?_
      clear hK K
      simp only [qblock_normal, qseq_normal]
      obtain rfl := Option.some.inj hm1
      refine ⟨_, rfl, ?_⟩
      exact ⟨(.rs (nxs (nxs h.nx)) 0 (List.length l12)), s2, (by first | rfl | exact s4 | simp only [go_sem, s4, List.length_append, List.map_append]), (by first | rfl | exact s5 | simp only [go_sem, s5, List.length_append, List.map_append]), s9, s10, (by first | rfl | exact s11 | simp only [go_sem, s11, List.length_append, List.map_append]), (own_rs (by simp only [go_sem, List.length_append, List.map_append]) (by simp only [go_sem, List.length_append, List.map_append]) (by simp only [go_sem]))⟩
    · rw [if_f hc5] at hm1
      simp only [cw_exit, qseq_exit, qblock_same, qblock_ne, qblock_normal, qseq_normal, Nat.reduceEqDiff, not_false_eq_true]
      obtain rfl := Option.some.inj hm1
      obtain rfl := hb3 _ rfl
      try dsimp only at hm0
      exact J2 each_4 whole_5 v4 _ _ s4 s5 ow_o4 hm0

end Go.Nw.DM

namespace Go.Nw.DM
open Go.Nw.Door
set_option linter.unusedSimpArgs false
set_option linter.unusedVariables false
variable {O : Orac}

theorem k_circuit_ascending (hf : Has O "newel/circuit.ascending" x_circuit_ascending) : C_circuit_ascending O := by
  intro l low high r hm0
  unfold circuit_ascending at hm0
  refine fn_cw hf rfl (fz_cons (frz_fs fun a _ => fz_eI a) (fz_cons (frz_v _) (fz_cons (frz_v _) fz_nil))) (frz_v _) ?_
  refine cw_start (fun t h => t 0 = .fs 1 (List.map eI l) ∧ t 1 = I low ∧ t 2 = I high) ⟨rfl, rfl, rfl⟩ fun t h ⟨s0, s1, s2⟩ => ?_
  simp only [x_circuit_ascending]
  refine cw_reg_seq fun K hK => ?_
  simp only [go_sem]
  refine hK _ _ ?_
  clear hK K
  refine cw_assoc ?_
  refine cw_reg_seq fun K hK => ?_
  simp only [go_sem, s0]
  refine hK _ _ ?_
  clear hK K
  refine cw_seq_k fun K1 hK1 => ?_
  have J2 : ∀ (t : Slots) (h : Heap), circuit_ascending_j2 = some r → K1 t h := by
    intro t h hm0
    refine hK1 _ _ ?_
    unfold circuit_ascending_j2 at hm0
    refine cw_reg_seq fun K hK => ?_
    simp only [go_sem]
    refine hK _ _ ?_
    clear hK K
    simp only [cw_ret, qseq_ret, qblock_ret, retQ_ret]
    obtain rfl := Option.some.inj hm0
    exact done_t (by simp only [go_sem, List.length_append, List.map_append]) (frz_v _)
  simp only [cw_block]
  obtain ⟨b3, hl3, hm0⟩ := bind_get hm0
  refine cw_loopM hl3 (fun | (low_1, x_11), t, h => t 1 = I low_1 ∧ t 2 = I high ∧ t 9 = .fs 1 (List.map eI l) ∧ t 10 = I (List.length l : Int) ∧ t 11 = I x_11) ?_ ?_
  · exact ⟨s1, s2, (by first | rfl | simp only [go_sem, List.length_append, List.map_append]), (by first | rfl | simp only [go_sem, List.length_append, List.map_append]), (by first | rfl | simp only [go_sem, List.length_append, List.map_append])⟩
  · rintro ⟨low_1, x_11⟩ o t h ⟨s1, s2, s9, s10, s11⟩ hm1 hb3
    simp only [circuit_ascending_L8] at hm1
    rw [x_circuit_ascending_L8]
    refine cw_reg_seq fun K hK => ?_
    simp only [go_sem, s10, s11]
    refine hK _ _ ?_
    clear hK K
    refine cw_seq_k fun K4 hK4 => ?_
    simp only [go_sem]
    refine ibr_intro (fun hc5 => ?_) (fun hc5 => ?_)
    · rw [if_t hc5] at hm1
      simp only [cw_skip, qblock_normal, qseq_normal]
      refine hK4 _ _ ?_
      refine cw_seq_k fun K6 hK6 => ?_
      simp only [cw_block]
      obtain ⟨x8, h_x8, hm1⟩ := bind_get hm1
      have h_x80 := get_nn h_x8
      have h_x81 := get_lt h_x8
      refine cw_reg_seq fun K hK => ?_
      simp only [go_sem, s9, s11, ielem_get h_x8, irow_get h_x8, h_x80, h_x81]
      refine hK _ _ ?_
      clear hK K
      refine cw_assoc ?_
      refine cw_reg_postK (fun t h => t 2 = I high ∧ t 8 = I x8 ∧ t 9 = .fs 1 (List.map eI l) ∧ t 10 = I (List.length l : Int) ∧ t 11 = I x_11 ∧ t 22 = B ((decide (x8 < low_1)) || (decide (high ≤ x8)))) (fun K hK => ?_) ?_
      · simp only [go_sem, s1, s2]
        refine ibr_intro (fun hg9 => ?_) (fun hg9 => ?_)
        · simp only [go_sem, s1, s2, hg9]
          exact hK _ _ ⟨s2, (by first | rfl | simp only [go_sem, hg9, List.length_append, List.map_append]), s9, s10, s11, (by first | rfl | simp only [go_sem, hg9, List.length_append, List.map_append])⟩
        · simp only [go_sem, s1, s2, hg9]
          exact hK _ _ ⟨s2, (by first | rfl | simp only [go_sem, hg9, List.length_append, List.map_append]), s9, s10, s11, (by first | rfl | simp only [go_sem, hg9, List.length_append, List.map_append])⟩
      · rintro t h ⟨s2, s8, s9, s10, s11, s22⟩
        refine cw_seq_k fun K10 hK10 => ?_
        simp only [go_sem, s22]
        refine ibr_intro (fun hc11 => ?_) (fun hc11 => ?_)
        · rw [if_t hc11] at hm1
          refine cw_reg_seq fun K hK => ?_
          simp only [go_sem]
          refine hK _ _ ?_
          clear hK K
          simp only [cw_ret, qseq_ret, qblock_ret, retQ_ret]
          obtain rfl := Option.some.inj hm1
          obtain rfl := hb3 _ rfl
          try dsimp only at hm0
          obtain rfl := Option.some.inj hm0
          exact done_t (by simp only [go_sem, List.length_append, List.map_append]) (frz_v _)
        · rw [if_f hc11] at hm1
          simp only [cw_skip, qblock_normal, qseq_normal]
          refine hK10 _ _ ?_
          refine cw_reg_k fun K hK => ?_
          simp only [go_sem, s8]
          refine hK _ _ ?_
          clear hK K
          simp only [qblock_normal, qseq_normal]
          refine hK6 _ _ ?_
          refine cw_reg_k fun K hK => ?_
          simp only [go_sem, s11]
          refine hK _ _ ?_
          clear hK K
          simp only [qblock_normal, qseq_normal]
          obtain rfl := Option.some.inj hm1
          refine ⟨_, rfl, ?_⟩
          exact ⟨(by first | rfl | simp only [go_sem, List.length_append, List.map_append]), s2, s9, s10, (by first | rfl | exact s11 | simp only [go_sem, s11, List.length_append, List.map_append])⟩
    · rw [if_f hc5] at hm1
      simp only [cw_exit, qseq_exit, qblock_same, qblock_ne, qblock_normal, qseq_normal, Nat.reduceEqDiff, not_false_eq_true]
      obtain rfl := Option.some.inj hm1
      obtain rfl := hb3 _ rfl
      try dsimp only at hm0
      exact J2  _ _  hm0

end Go.Nw.DM

namespace Go.Nw.DM
open Go.Nw.Door
set_option linter.unusedSimpArgs false
set_option linter.unusedVariables false
variable {O : Orac}

theorem k_circuit_check (hf : Has O "newel/circuit.check" x_circuit_check) (k_circuit_Check : C_circuit_Check O) (k_circuit_isSet : C_circuit_isSet O) : C_circuit_check O := by
  intro c l r hm0
  unfold circuit_check at hm0
  refine fn_cw hf rfl (fz_cons (.agg _ (fz_cons (frz_v _) (fz_cons (frz_fs fun a _ => fz_eI a) (fz_cons (frz_fs fun a _ => fz_eWire a) fz_nil)))) (fz_cons (frz_fs fun a _ => fz_eTrial a) fz_nil)) (frz_v _) ?_
  refine cw_start (fun t h => t 0 = .agg [I c.Hazards, .fs 1 (List.map eI c.Switches), .fs 2 (List.map eWire c.Wires)] ∧ t 1 = .fs 2 (List.map eTrial l)) ⟨rfl, rfl⟩ fun t h ⟨s0, s1⟩ => ?_
  simp only [x_circuit_check]
  refine cw_reg_seq fun K hK => ?_
  simp only [go_sem, s0]
  refine hK _ _ ?_
  clear hK K
  refine cw_assoc ?_
  obtain ⟨y2, h_y2, hm0⟩ := bind_get hm0
  refine cw_reg_seq fun K hK => ?_
  simp only [go_sem]
  refine icall_fn (k_circuit_Check c _ h_y2) ?_
  simp only [go_sem]
  refine hK _ _ ?_
  clear hK K
  refine cw_assoc ?_
  refine cw_reg_seq fun K hK => ?_
  simp only [go_sem]
  refine hK _ _ ?_
  clear hK K
  refine cw_seq_k fun K3 hK3 => ?_
  simp only [go_sem]
  refine ibr_intro (fun hc4 => ?_) (fun hc4 => ?_)
  · rw [if_t hc4] at hm0
    refine cw_reg_seq fun K hK => ?_
    simp only [go_sem]
    refine hK _ _ ?_
    clear hK K
    simp only [cw_ret, qseq_ret, qblock_ret, retQ_ret]
    obtain rfl := Option.some.inj hm0
    exact done_t (by simp only [go_sem, List.length_append, List.map_append]) (frz_v _)
  · rw [if_f hc4] at hm0
    simp only [cw_skip, qblock_normal, qseq_normal]
    refine hK3 _ _ ?_
    refine cw_assoc ?_
    refine cw_reg_seq fun K hK => ?_
    simp only [go_sem, s1]
    refine hK _ _ ?_
    clear hK K
    refine cw_seq_k fun K5 hK5 => ?_
    simp only [go_sem]
    refine ibr_intro (fun hc6 => ?_) (fun hc6 => ?_)
    · rw [if_t hc6] at hm0
      refine cw_reg_seq fun K hK => ?_
      simp only [go_sem]
      refine hK _ _ ?_
      clear hK K
      simp only [cw_ret, qseq_ret, qblock_ret, retQ_ret]
      obtain rfl := Option.some.inj hm0
      exact done_t (by simp only [go_sem, List.length_append, List.map_append]) (frz_v _)
    · rw [if_f hc6] at hm0
      simp only [cw_skip, qblock_normal, qseq_normal]
      refine hK5 _ _ ?_
      refine cw_assoc ?_
      refine cw_reg_seq fun K hK => ?_
      simp only [go_sem, s1]
      refine hK _ _ ?_
      clear hK K
      refine cw_seq_k fun K7 hK7 => ?_
      have J8 : ∀ (t : Slots) (h : Heap), circuit_check_j8 = some r → K7 t h := by
        intro t h hm0
        refine hK7 _ _ ?_
        unfold circuit_check_j8 at hm0
        refine cw_reg_seq fun K hK => ?_
        simp only [go_sem]
        refine hK _ _ ?_
        clear hK K
        simp only [cw_ret, qseq_ret, qblock_ret, retQ_ret]
        obtain rfl := Option.some.inj hm0
        exact done_t (by simp only [go_sem, List.length_append, List.map_append]) (frz_v _)
      simp only [cw_block]
      obtain ⟨b9, hl9, hm0⟩ := bind_get hm0
      refine cw_loopM hl9 (fun | x_18, t, h => t 2 = .fp [I c.Hazards, .fs 1 (List.map eI c.Switches), .fs 2 (List.map eWire c.Wires)] 0 ∧ t 16 = .fs 2 (List.map eTrial l) ∧ t 17 = I (List.length l : Int) ∧ t 18 = I x_18) ?_ ?_
      · exact ⟨(by first | rfl | simp only [go_sem, List.length_append, List.map_append]), (by first | rfl | simp only [go_sem, List.length_append, List.map_append]), (by first | rfl | simp only [go_sem, List.length_append, List.map_append]), (by first | rfl | simp only [go_sem, List.length_append, List.map_append])⟩
      · rintro x_18 o t h ⟨s2, s16, s17, s18⟩ hm1 hb9
        simp only [circuit_check_L12] at hm1
        rw [x_circuit_check_L12]
        refine cw_reg_seq fun K hK => ?_
        simp only [go_sem, s17, s18]
        refine hK _ _ ?_
        clear hK K
        refine cw_seq_k fun K10 hK10 => ?_
        simp only [go_sem]
        refine ibr_intro (fun hc11 => ?_) (fun hc11 => ?_)
        · rw [if_t hc11] at hm1
          simp only [cw_skip, qblock_normal, qseq_normal]
          refine hK10 _ _ ?_
          refine cw_seq_k fun K12 hK12 => ?_
          simp only [cw_block]
          obtain ⟨x14, h_x14, hm1⟩ := bind_get hm1
          have h_x140 := get_nn h_x14
          have h_x141 := get_lt h_x14
          refine cw_reg_seq fun K hK => ?_
          simp only [go_sem, s16, s18, ielem_get h_x14, irow_get h_x14, h_x140, h_x141]
          refine hK _ _ ?_
          clear hK K
          obtain ⟨y16, h_y16, hm1⟩ := bind_get hm1
          refine cw_reg_postK (fun t h => t 2 = .fp [I c.Hazards, .fs 1 (List.map eI c.Switches), .fs 2 (List.map eWire c.Wires)] 0 ∧ t 16 = .fs 2 (List.map eTrial l) ∧ t 17 = I (List.length l : Int) ∧ t 18 = I x_18 ∧ t 40 = B (((!y16) || (decide (x14.Wire < 0))) || (decide ((List.length c.Wires : Int) ≤ x14.Wire)))) (fun K hK => ?_) ?_
          · simp only [go_sem, s2]
            refine icall_fn (k_circuit_isSet x14.Hazards c.Hazards _ h_y16) ?_
            simp only [go_sem, s2]
            refine ibr_intro (fun hg17 => ?_) (fun hg17 => ?_)
            · simp only [go_sem, s2, hg17]
              exact hK _ _ ⟨s2, s16, s17, s18, (by first | rfl | simp only [go_sem, hg17, List.length_append, List.map_append])⟩
            · simp only [go_sem, s2, hg17]
              refine ibr_intro (fun hg18 => ?_) (fun hg18 => ?_)
              · simp only [go_sem, s2, hg17, hg18]
                exact hK _ _ ⟨s2, s16, s17, s18, (by first | rfl | simp only [go_sem, hg17, hg18, List.length_append, List.map_append])⟩
              · simp only [go_sem, s2, hg17, hg18]
                exact hK _ _ ⟨s2, s16, s17, s18, (by first | rfl | simp only [go_sem, hg17, hg18, List.length_append, List.map_append])⟩
          · rintro t h ⟨s2, s16, s17, s18, s40⟩
            simp only [go_sem, s40]
            refine ibr_intro (fun hc19 => ?_) (fun hc19 => ?_)
            · rw [if_t hc19] at hm1
              refine cw_reg_seq fun K hK => ?_
              simp only [go_sem]
              refine hK _ _ ?_
              clear hK K
              simp only [cw_ret, qseq_ret, qblock_ret, retQ_ret]
              obtain rfl := Option.some.inj hm1
              obtain rfl := hb9 _ rfl
              try dsimp only at hm0
              obtain rfl := Option.some.inj hm0
              exact done_t (by simp only [go_sem, List.length_append, List.map_append]) (frz_v _)
            · rw [if_f hc19] at hm1
              simp only [cw_skip, qblock_normal, qseq_normal]
              refine hK12 _ _ ?_
              refine cw_reg_k fun K hK => ?_
              simp only [go_sem, s18]
              refine hK _ _ ?_
              clear hK K
              simp only [qblock_normal, qseq_normal]
              obtain rfl := Option.some.inj hm1
              refine ⟨_, rfl, ?_⟩
              exact ⟨s2, s16, s17, (by first | rfl | exact s18 | simp only [go_sem, s18, List.length_append, List.map_append])⟩
        · rw [if_f hc11] at hm1
          simp only [cw_exit, qseq_exit, qblock_same, qblock_ne, qblock_normal, qseq_normal, Nat.reduceEqDiff, not_false_eq_true]
          obtain rfl := Option.some.inj hm1
          obtain rfl := hb9 _ rfl
          try dsimp only at hm0
          exact J8  _ _  hm0

end Go.Nw.DM

namespace Go.Nw.DM
open Go.Nw.Door
set_option linter.unusedSimpArgs false
set_option linter.unusedVariables false
variable {O : Orac}

theorem k_circuit_checkRota (hf : Has O "newel/circuit.checkRota" x_circuit_checkRota) (k_circuit_check : C_circuit_check O) (k_circuit_ascending : C_circuit_ascending O) : C_circuit_checkRota O := by
  intro c l r_ r hm0
  unfold circuit_checkRota at hm0
  refine fn_cw hf rfl (fz_cons (.agg _ (fz_cons (frz_v _) (fz_cons (frz_fs fun a _ => fz_eI a) (fz_cons (frz_fs fun a _ => fz_eWire a) fz_nil)))) (fz_cons (frz_fs fun a _ => fz_eTrial a) (fz_cons (.agg _ (fz_cons (frz_fs fun a _ => fz_eL_I a) (fz_cons (frz_v _) fz_nil))) fz_nil))) (frz_v _) ?_
  refine cw_start (fun t h => t 0 = .agg [I c.Hazards, .fs 1 (List.map eI c.Switches), .fs 2 (List.map eWire c.Wires)] ∧ t 1 = .fs 2 (List.map eTrial l) ∧ t 2 = .agg [.fs 1 (List.map eL_I r_.Nights), I r_.Gap]) ⟨rfl, rfl, rfl⟩ fun t h ⟨s0, s1, s2⟩ => ?_
  simp only [x_circuit_checkRota]
  refine cw_reg_seq fun K hK => ?_
  simp only [go_sem, s0, s2]
  refine hK _ _ ?_
  clear hK K
  refine cw_assoc ?_
  obtain ⟨y2, h_y2, hm0⟩ := bind_get hm0
  refine cw_reg_seq fun K hK => ?_
  simp only [go_sem, s1]
  refine icall_fn (k_circuit_check c l _ h_y2) ?_
  simp only [go_sem, s1]
  refine hK _ _ ?_
  clear hK K
  refine cw_assoc ?_
  refine cw_reg_seq fun K hK => ?_
  simp only [go_sem]
  refine hK _ _ ?_
  clear hK K
  refine cw_seq_k fun K3 hK3 => ?_
  simp only [go_sem]
  refine ibr_intro (fun hc4 => ?_) (fun hc4 => ?_)
  · rw [if_t hc4] at hm0
    refine cw_reg_seq fun K hK => ?_
    simp only [go_sem]
    refine hK _ _ ?_
    clear hK K
    simp only [cw_ret, qseq_ret, qblock_ret, retQ_ret]
    obtain rfl := Option.some.inj hm0
    exact done_t (by simp only [go_sem, List.length_append, List.map_append]) (frz_v _)
  · rw [if_f hc4] at hm0
    simp only [cw_skip, qblock_normal, qseq_normal]
    refine hK3 _ _ ?_
    refine cw_assoc ?_
    refine cw_reg_postK (fun t h => t 1 = .fs 2 (List.map eTrial l) ∧ t 5 = .fp [.fs 1 (List.map eL_I r_.Nights), I r_.Gap] 0 ∧ t 35 = B ((((decide ((List.length r_.Nights : Int) < 1)) || (decide (60 < (List.length r_.Nights : Int)))) || (decide (r_.Gap < 1))) || (decide (60 < r_.Gap)))) (fun K hK => ?_) ?_
    · simp only [go_sem]
      refine ibr_intro (fun hg5 => ?_) (fun hg5 => ?_)
      · simp only [go_sem, hg5]
        exact hK _ _ ⟨s1, (by first | rfl | simp only [go_sem, hg5, List.length_append, List.map_append]), (by first | rfl | simp only [go_sem, hg5, List.length_append, List.map_append])⟩
      · simp only [go_sem, hg5]
        refine ibr_intro (fun hg6 => ?_) (fun hg6 => ?_)
        · simp only [go_sem, hg5, hg6]
          exact hK _ _ ⟨s1, (by first | rfl | simp only [go_sem, hg5, hg6, List.length_append, List.map_append]), (by first | rfl | simp only [go_sem, hg5, hg6, List.length_append, List.map_append])⟩
        · simp only [go_sem, hg5, hg6]
          refine ibr_intro (fun hg7 => ?_) (fun hg7 => ?_)
          · simp only [go_sem, hg5, hg6, hg7]
            exact hK _ _ ⟨s1, (by first | rfl | simp only [go_sem, hg5, hg6, hg7, List.length_append, List.map_append]), (by first | rfl | simp only [go_sem, hg5, hg6, hg7, List.length_append, List.map_append])⟩
          · simp only [go_sem, hg5, hg6, hg7]
            exact hK _ _ ⟨s1, (by first | rfl | simp only [go_sem, hg5, hg6, hg7, List.length_append, List.map_append]), (by first | rfl | simp only [go_sem, hg5, hg6, hg7, List.length_append, List.map_append])⟩
    · rintro t h ⟨s1, s5, s35⟩
      refine cw_seq_k fun K8 hK8 => ?_
      simp only [go_sem, s35]
      refine ibr_intro (fun hc9 => ?_) (fun hc9 => ?_)
      · rw [if_t hc9] at hm0
        refine cw_reg_seq fun K hK => ?_
        simp only [go_sem]
        refine hK _ _ ?_
        clear hK K
        simp only [cw_ret, qseq_ret, qblock_ret, retQ_ret]
        obtain rfl := Option.some.inj hm0
        exact done_t (by simp only [go_sem, List.length_append, List.map_append]) (frz_v _)
      · rw [if_f hc9] at hm0
        simp only [cw_skip, qblock_normal, qseq_normal]
        refine hK8 _ _ ?_
        refine cw_assoc ?_
        refine cw_reg_seq fun K hK => ?_
        simp only [go_sem, s5]
        refine hK _ _ ?_
        clear hK K
        refine cw_seq_k fun K10 hK10 => ?_
        have J11 : ∀ (t : Slots) (h : Heap), circuit_checkRota_j11 = some r → K10 t h := by
          intro t h hm0
          refine hK10 _ _ ?_
          unfold circuit_checkRota_j11 at hm0
          refine cw_reg_seq fun K hK => ?_
          simp only [go_sem]
          refine hK _ _ ?_
          clear hK K
          simp only [cw_ret, qseq_ret, qblock_ret, retQ_ret]
          obtain rfl := Option.some.inj hm0
          exact done_t (by simp only [go_sem, List.length_append, List.map_append]) (frz_v _)
        simp only [cw_block]
        obtain ⟨b12, hl12, hm0⟩ := bind_get hm0
        refine cw_loopM hl12 (fun | x_39, t, h => t 1 = .fs 2 (List.map eTrial l) ∧ t 37 = .fs 1 (List.map eL_I r_.Nights) ∧ t 38 = I (List.length r_.Nights : Int) ∧ t 39 = I x_39) ?_ ?_
        · exact ⟨s1, (by first | rfl | simp only [go_sem, List.length_append, List.map_append]), (by first | rfl | simp only [go_sem, List.length_append, List.map_append]), (by first | rfl | simp only [go_sem, List.length_append, List.map_append])⟩
        · rintro x_39 o t h ⟨s1, s37, s38, s39⟩ hm1 hb12
          simp only [circuit_checkRota_L12] at hm1
          rw [x_circuit_checkRota_L12]
          refine cw_reg_seq fun K hK => ?_
          simp only [go_sem, s38, s39]
          refine hK _ _ ?_
          clear hK K
          refine cw_seq_k fun K13 hK13 => ?_
          simp only [go_sem]
          refine ibr_intro (fun hc14 => ?_) (fun hc14 => ?_)
          · rw [if_t hc14] at hm1
            simp only [cw_skip, qblock_normal, qseq_normal]
            refine hK13 _ _ ?_
            refine cw_seq_k fun K15 hK15 => ?_
            simp only [cw_block]
            obtain ⟨x17, h_x17, hm1⟩ := bind_get hm1
            have h_x170 := get_nn h_x17
            have h_x171 := get_lt h_x17
            refine cw_reg_seq fun K hK => ?_
            simp only [go_sem, s37, s39, ielem_get h_x17, irow_get h_x17, h_x170, h_x171]
            refine hK _ _ ?_
            clear hK K
            obtain ⟨y19, h_y19, hm1⟩ := bind_get hm1
            refine cw_reg_seq fun K hK => ?_
            simp only [go_sem, s1]
            refine icall_fn (k_circuit_ascending x17 0 (List.length l : Int) _ h_y19) ?_
            simp only [go_sem, s1]
            refine hK _ _ ?_
            clear hK K
            simp only [go_sem]
            refine ibr_intro (fun hc20 => ?_) (fun hc20 => ?_)
            · rw [if_t hc20] at hm1
              refine cw_reg_seq fun K hK => ?_
              simp only [go_sem]
              refine hK _ _ ?_
              clear hK K
              simp only [cw_ret, qseq_ret, qblock_ret, retQ_ret]
              obtain rfl := Option.some.inj hm1
              obtain rfl := hb12 _ rfl
              try dsimp only at hm0
              obtain rfl := Option.some.inj hm0
              exact done_t (by simp only [go_sem, List.length_append, List.map_append]) (frz_v _)
            · rw [if_f hc20] at hm1
              simp only [cw_skip, qblock_normal, qseq_normal]
              refine hK15 _ _ ?_
              refine cw_reg_k fun K hK => ?_
              simp only [go_sem, s39]
              refine hK _ _ ?_
              clear hK K
              simp only [qblock_normal, qseq_normal]
              obtain rfl := Option.some.inj hm1
              refine ⟨_, rfl, ?_⟩
              exact ⟨s1, s37, s38, (by first | rfl | exact s39 | simp only [go_sem, s39, List.length_append, List.map_append])⟩
          · rw [if_f hc14] at hm1
            simp only [cw_exit, qseq_exit, qblock_same, qblock_ne, qblock_normal, qseq_normal, Nat.reduceEqDiff, not_false_eq_true]
            obtain rfl := Option.some.inj hm1
            obtain rfl := hb12 _ rfl
            try dsimp only at hm0
            exact J11  _ _  hm0

end Go.Nw.DM

namespace Go.Nw.DM
open Go.Nw.Door
set_option linter.unusedSimpArgs false
set_option linter.unusedVariables false
variable {O : Orac}

theorem k_circuit_elements (hf : Has O "newel/circuit.elements" x_circuit_elements) (k_math_bits_TrailingZeros : C_math_bits_TrailingZeros O) : C_circuit_elements O := by
  intro set r hm0
  unfold circuit_elements at hm0
  refine fn_cw hf rfl (fz_cons (frz_v _) fz_nil) (frz_fs fun a _ => fz_eI a) ?_
  refine cw_start (fun t h => t 0 = I set) rfl fun t h s0 => ?_
  simp only [x_circuit_elements]
  refine cw_reg_seq fun K hK => ?_
  simp only [go_sem]
  refine hK _ _ ?_
  clear hK K
  refine cw_seq_k fun K1 hK1 => ?_
  have J2 : ∀ (out_2 : List Int) (v2 : AV) (t : Slots) (h : Heap), t 2 = v2 → OwnS h v2 1 (List.map eI out_2) → circuit_elements_j2 out_2 = some r → K1 t h := by
    intro out_2 v2 t h s2 ow_o2 hm0
    refine hK1 _ _ ?_
    unfold circuit_elements_j2 at hm0
    refine cw_reg_seq fun K hK => ?_
    simp only [go_sem, s2, istr_of v2]
    refine hK _ _ ?_
    clear hK K
    simp only [cw_ret, qseq_ret, qblock_ret, retQ_ret]
    obtain rfl := Option.some.inj hm0
    exact done_fz (v := v2) (by simp only [go_sem, s2, List.length_append, List.map_append]) (fz_own (f := eI) (l := out_2) (own_later ow_o2 (by intro j hj hl; first | rfl | simp only [go_sem, hl]) (by first | omega | (simp only [go_sem, nxs]; omega))) fz_eI ln_eI)
  simp only [cw_block]
  obtain ⟨b3, hl3, hm0⟩ := bind_get hm0
  refine cw_loopM hl3 (fun | (set_0, out_2), t, h => ∃ v2 : AV, t 0 = I set_0 ∧ t 2 = v2 ∧ OwnS h v2 1 (List.map eI out_2)) ?_ ?_
  · exact ⟨(.v (.slice none 0 0)), s0, (by first | rfl | simp only [go_sem, List.length_append, List.map_append]), own_nil'⟩
  · rintro ⟨set_0, out_2⟩ o t h ⟨v2, s0, s2, ow_o2⟩ hm1 hb3
    simp only [circuit_elements_L4] at hm1
    rw [x_circuit_elements_L4]
    refine cw_assoc ?_
    refine cw_reg_seq fun K hK => ?_
    simp only [go_sem, s0, istr_of v2]
    refine hK _ _ ?_
    clear hK K
    refine cw_seq_k fun K4 hK4 => ?_
    simp only [go_sem]
    refine ibr_intro (fun hc5 => ?_) (fun hc5 => ?_)
    · rw [if_t hc5] at hm1
      simp only [cw_skip, qblock_normal, qseq_normal]
      refine hK4 _ _ ?_
      refine cw_seq_k fun K6 hK6 => ?_
      simp only [cw_block]
      obtain ⟨y9, h_y9, hm1⟩ := bind_get hm1
      obtain ⟨l10, h_l10, hm1⟩ := bind_get hm1
      refine cw_reg_k fun K hK => ?_
      simp only [go_sem, s0, s2, istr_of v2]
      refine icall_fn (k_math_bits_TrailingZeros (IntKind.wrap .u64 set_0) _ h_y9) ?_
      simp only [go_sem, s0, s2, istr_of v2]
      refine iapp_own (f := eI) (l := out_2) (m := ([y9])) ?_ ?_ ?_ ?_ h_l10 ?_
      · exact (own_later ow_o2 (by intro j hj hl; first | rfl | simp only [go_sem, hl]) (by first | omega | (simp only [go_sem, nxs]; omega)))
      · exact (ownx_rs (by simp only [go_sem, List.length_append, List.map_append]) (by simp only [go_sem, List.length_append, List.map_append]))
      · exact (nd_rs (by first | exact notid_nil | exact notid_rs (by first | omega | (simp only [nxs]; omega)) | assumption | exact own_notid (by assumption) (by first | omega | (simp only [go_sem, nxs]; omega))))
      · exact (fun _ => by simp)
      simp only [go_sem, s0, s2, istr_of v2]
      refine hK _ _ ?_
      clear hK K
      simp only [qblock_normal, qseq_normal]
      refine hK6 _ _ ?_
      refine cw_reg_k fun K hK => ?_
      simp only [go_sem, s0, istr_of v2]
      refine hK _ _ ?_
      clear hK K
      simp only [qblock_normal, qseq_normal]
      obtain rfl := Option.some.inj hm1
      refine ⟨_, rfl, ?_⟩
      exact ⟨(.rs (nxs h.nx) 0 (List.length l10)), (by first | rfl | exact s0 | simp only [go_sem, s0, List.length_append, List.map_append]), (by first | rfl | exact s2 | simp only [go_sem, s2, List.length_append, List.map_append]), (own_rs (by simp only [go_sem, List.length_append, List.map_append]) (by simp only [go_sem, List.length_append, List.map_append]) (by simp only [go_sem]))⟩
    · rw [if_f hc5] at hm1
      simp only [cw_exit, qseq_exit, qblock_same, qblock_ne, qblock_normal, qseq_normal, Nat.reduceEqDiff, not_false_eq_true]
      obtain rfl := Option.some.inj hm1
      obtain rfl := hb3 _ rfl
      try dsimp only at hm0
      exact J2 out_2 v2 _ _ s2 ow_o2 hm0

end Go.Nw.DM

namespace Go.Nw.DM
open Go.Nw.Door
set_option linter.unusedSimpArgs false
set_option linter.unusedVariables false
variable {O : Orac}

theorem k_circuit_gap (hf : Has O "newel/circuit.gap" x_circuit_gap) : C_circuit_gap O := by
  intro switches many nights r hm0
  unfold circuit_gap at hm0
  refine fn_cw hf rfl (fz_cons (frz_v _) (fz_cons (frz_v _) (fz_cons (frz_fs fun a _ => fz_eI a) fz_nil))) (.tup _ (fz_cons (frz_v _) (fz_cons (frz_v _) (fz_cons (frz_v _) fz_nil)))) ?_
  refine cw_start (fun t h => t 0 = I switches ∧ t 1 = I many ∧ t 2 = .fs 1 (List.map eI nights)) ⟨rfl, rfl, rfl⟩ fun t h ⟨s0, s1, s2⟩ => ?_
  simp only [x_circuit_gap]
  refine cw_reg_seq fun K hK => ?_
  simp only [go_sem]
  refine hK _ _ ?_
  clear hK K
  refine cw_assoc ?_
  refine cw_reg_seq fun K hK => ?_
  simp only [go_sem, s0]
  refine hK _ _ ?_
  clear hK K
  refine cw_seq_k fun K1 hK1 => ?_
  have J2 : ∀ (t : Slots) (h : Heap), circuit_gap_j2 = some r → K1 t h := by
    intro t h hm0
    refine hK1 _ _ ?_
    unfold circuit_gap_j2 at hm0
    refine cw_reg_seq fun K hK => ?_
    simp only [go_sem]
    refine hK _ _ ?_
    clear hK K
    simp only [cw_ret, qseq_ret, qblock_ret, retQ_ret]
    obtain rfl := Option.some.inj hm0
    exact done_t3 (by simp only [go_sem, List.length_append, List.map_append]) (by simp only [go_sem, List.length_append, List.map_append]) (by simp only [go_sem, List.length_append, List.map_append]) (frz_v _) (frz_v _) (frz_v _)
  simp only [cw_block]
  obtain ⟨b3, hl3, hm0⟩ := bind_get hm0
  refine cw_loopM hl3 (fun | x_12, t, h => t 1 = I many ∧ t 2 = .fs 1 (List.map eI nights) ∧ t 11 = I switches ∧ t 12 = I x_12) ?_ ?_
  · exact ⟨s1, s2, (by first | rfl | simp only [go_sem, List.length_append, List.map_append]), (by first | rfl | simp only [go_sem, List.length_append, List.map_append])⟩
  · rintro x_12 o t h ⟨s1, s2, s11, s12⟩ hm1 hb3
    simp only [circuit_gap_L19] at hm1
    rw [x_circuit_gap_L19]
    refine cw_reg_seq fun K hK => ?_
    simp only [go_sem, s11, s12]
    refine hK _ _ ?_
    clear hK K
    refine cw_seq_k fun K4 hK4 => ?_
    simp only [go_sem]
    refine ibr_intro (fun hc5 => ?_) (fun hc5 => ?_)
    · rw [if_t hc5] at hm1
      simp only [cw_skip, qblock_normal, qseq_normal]
      refine hK4 _ _ ?_
      refine cw_seq_k fun K6 hK6 => ?_
      have J7 : ∀ (t : Slots) (h : Heap), t 1 = I many → t 2 = .fs 1 (List.map eI nights) → t 11 = I switches → t 12 = I x_12 → circuit_gap_j7 x_12 = some o → K6 t h := by
        intro t h s1 s2 s11 s12 hm1
        refine hK6 _ _ ?_
        unfold circuit_gap_j7 at hm1
        refine cw_reg_k fun K hK => ?_
        simp only [go_sem, s12]
        refine hK _ _ ?_
        clear hK K
        simp only [qblock_normal, qseq_normal]
        obtain rfl := Option.some.inj hm1
        refine ⟨_, rfl, ?_⟩
        exact ⟨s1, s2, s11, (by first | rfl | exact s12 | simp only [go_sem, s12, List.length_append, List.map_append])⟩
      simp only [cw_block]
      refine cw_reg_seq fun K hK => ?_
      simp only [go_sem, s12]
      refine hK _ _ ?_
      clear hK K
      refine cw_reg_seq fun K hK => ?_
      simp only [go_sem, s2]
      refine hK _ _ ?_
      clear hK K
      simp only [cw_block]
      obtain ⟨b8, hl8, hm1⟩ := bind_get hm1
      refine cw_loopM hl8 (fun | (sw_6, x_17), t, h => t 1 = I many ∧ t 2 = .fs 1 (List.map eI nights) ∧ t 6 = I sw_6 ∧ t 11 = I switches ∧ t 12 = I x_12 ∧ t 16 = I (List.length nights : Int) ∧ t 17 = I x_17) ?_ ?_
      · exact ⟨s1, s2, (by first | rfl | simp only [go_sem, List.length_append, List.map_append]), s11, s12, (by first | rfl | simp only [go_sem, List.length_append, List.map_append]), (by first | rfl | simp only [go_sem, List.length_append, List.map_append])⟩
      · rintro ⟨sw_6, x_17⟩ o t h ⟨s1, s2, s6, s11, s12, s16, s17⟩ hm2 hb8
        simp only [circuit_gap_L17] at hm2
        rw [x_circuit_gap_L17]
        refine cw_reg_seq fun K hK => ?_
        simp only [go_sem, s16, s17]
        refine hK _ _ ?_
        clear hK K
        refine cw_seq_k fun K9 hK9 => ?_
        simp only [go_sem]
        refine ibr_intro (fun hc10 => ?_) (fun hc10 => ?_)
        · rw [if_t hc10] at hm2
          simp only [cw_skip, qblock_normal, qseq_normal]
          refine hK9 _ _ ?_
          refine cw_seq_k fun K11 hK11 => ?_
          have J12 : ∀ (t : Slots) (h : Heap), t 1 = I many → t 2 = .fs 1 (List.map eI nights) → t 6 = I sw_6 → t 11 = I switches → t 12 = I x_12 → t 16 = I (List.length nights : Int) → t 17 = I x_17 → circuit_gap_j12 sw_6 x_17 = some o → K11 t h := by
            intro t h s1 s2 s6 s11 s12 s16 s17 hm2
            refine hK11 _ _ ?_
            unfold circuit_gap_j12 at hm2
            refine cw_reg_k fun K hK => ?_
            simp only [go_sem, s17]
            refine hK _ _ ?_
            clear hK K
            simp only [qblock_normal, qseq_normal]
            obtain rfl := Option.some.inj hm2
            refine ⟨_, rfl, ?_⟩
            exact ⟨s1, s2, s6, s11, s12, s16, (by first | rfl | exact s17 | simp only [go_sem, s17, List.length_append, List.map_append])⟩
          simp only [cw_block]
          refine cw_reg_seq fun K hK => ?_
          simp only [go_sem, s17]
          refine hK _ _ ?_
          clear hK K
          refine cw_reg_seq fun K hK => ?_
          simp only [go_sem]
          refine hK _ _ ?_
          clear hK K
          refine cw_assoc ?_
          refine cw_reg_seq fun K hK => ?_
          simp only [go_sem, s1]
          refine hK _ _ ?_
          clear hK K
          refine cw_seq_k fun K13 hK13 => ?_
          have J14 : ∀ (made_9 : Bool) (t : Slots) (h : Heap), t 1 = I many → t 2 = .fs 1 (List.map eI nights) → t 6 = I sw_6 → t 7 = I x_17 → t 9 = B made_9 → t 11 = I switches → t 12 = I x_12 → t 16 = I (List.length nights : Int) → t 17 = I x_17 → circuit_gap_j14 sw_6 x_17 made_9 = some o → K13 t h := by
            intro made_9 t h s1 s2 s6 s7 s9 s11 s12 s16 s17 hm2
            refine hK13 _ _ ?_
            unfold circuit_gap_j14 at hm2
            refine cw_reg_seq fun K hK => ?_
            simp only [go_sem, s9]
            refine hK _ _ ?_
            clear hK K
            simp only [go_sem]
            refine ibr_intro (fun hc15 => ?_) (fun hc15 => ?_)
            · rw [if_t hc15] at hm2
              refine cw_reg_seq fun K hK => ?_
              simp only [go_sem, s6, s7]
              refine hK _ _ ?_
              clear hK K
              simp only [cw_ret, qseq_ret, qblock_ret, retQ_ret]
              obtain rfl := Option.some.inj hm2
              obtain rfl := hb8 _ rfl
              try dsimp only at hm1
              obtain rfl := Option.some.inj hm1
              obtain rfl := hb3 _ rfl
              try dsimp only at hm0
              obtain rfl := Option.some.inj hm0
              exact done_t3 (by simp only [go_sem, s6, s7, List.length_append, List.map_append]) (by simp only [go_sem, s6, s7, List.length_append, List.map_append]) (by simp only [go_sem, s6, s7, List.length_append, List.map_append]) (frz_v _) (frz_v _) (frz_v _)
            · rw [if_f hc15] at hm2
              simp only [cw_skip, qblock_normal, qseq_normal]
              exact J12  _ _ s1 s2 s6 s11 s12 s16 s17 hm2
          simp only [cw_block]
          obtain ⟨b16, hl16, hm2⟩ := bind_get hm2
          refine cw_loopM hl16 (fun | (made_9, x_21), t, h => t 1 = I many ∧ t 2 = .fs 1 (List.map eI nights) ∧ t 6 = I sw_6 ∧ t 7 = I x_17 ∧ t 9 = B made_9 ∧ t 11 = I switches ∧ t 12 = I x_12 ∧ t 16 = I (List.length nights : Int) ∧ t 17 = I x_17 ∧ t 20 = I many ∧ t 21 = I x_21) ?_ ?_
          · exact ⟨s1, s2, s6, (by first | rfl | simp only [go_sem, List.length_append, List.map_append]), (by first | rfl | simp only [go_sem, List.length_append, List.map_append]), s11, s12, s16, s17, (by first | rfl | simp only [go_sem, List.length_append, List.map_append]), (by first | rfl | simp only [go_sem, List.length_append, List.map_append])⟩
          · rintro ⟨made_9, x_21⟩ o t h ⟨s1, s2, s6, s7, s9, s11, s12, s16, s17, s20, s21⟩ hm3 hb16
            simp only [circuit_gap_L13] at hm3
            rw [x_circuit_gap_L13]
            refine cw_reg_seq fun K hK => ?_
            simp only [go_sem, s20, s21]
            refine hK _ _ ?_
            clear hK K
            refine cw_seq_k fun K17 hK17 => ?_
            simp only [go_sem]
            refine ibr_intro (fun hc18 => ?_) (fun hc18 => ?_)
            · rw [if_t hc18] at hm3
              simp only [cw_skip, qblock_normal, qseq_normal]
              refine hK17 _ _ ?_
              refine cw_seq_k fun K19 hK19 => ?_
              simp only [cw_block]
              refine cw_reg_seq fun K hK => ?_
              simp only [go_sem, s21]
              refine hK _ _ ?_
              clear hK K
              obtain ⟨c27, h_c27, hm3⟩ := bind_get hm3
              refine cw_reg_postK1 (fun t h => t 1 = I many ∧ t 2 = .fs 1 (List.map eI nights) ∧ t 6 = I sw_6 ∧ t 7 = I x_17 ∧ t 9 = B c27 ∧ t 11 = I switches ∧ t 12 = I x_12 ∧ t 16 = I (List.length nights : Int) ∧ t 17 = I x_17 ∧ t 20 = I many ∧ t 21 = I x_21) (fun K hK => ?_) ?_
              · simp only [go_sem, s2, s6, s7, s9]
                refine ibr_intro (fun hg28 => ?_) (fun hg28 => ?_)
                · simp only [hg28, Bool.not_true, Bool.not_false, eq_self, if_true, if_false, Bool.true_or, Bool.or_true, Bool.false_or, Bool.or_false, Bool.true_and, Bool.and_true, Bool.false_and, Bool.and_false, Bool.false_eq_true] at h_c27
                  obtain rfl := Option.some.inj h_c27
                  simp only [go_sem, s2, s6, s7, s9, hg28]
                  exact hK _ _ ⟨s1, s2, s6, s7, (by first | rfl | exact s9 | simp only [go_sem, s9, hg28, List.length_append, List.map_append]), s11, s12, s16, s17, s20, s21⟩
                · simp only [hg28, Bool.not_true, Bool.not_false, eq_self, if_true, if_false, Bool.true_or, Bool.or_true, Bool.false_or, Bool.or_false, Bool.true_and, Bool.and_true, Bool.false_and, Bool.and_false, Bool.false_eq_true] at h_c27
                  obtain ⟨q24, h_q24, h_c27⟩ := bind_get h_c27
                  obtain ⟨x25, h_x25, h_c27⟩ := bind_get h_c27
                  have h_x250 := get_nn h_x25
                  have h_x251 := get_lt h_x25
                  obtain ⟨q26, h_q26, h_c27⟩ := bind_get h_c27
                  obtain rfl := Option.some.inj h_c27
                  simp only [go_sem, s2, s6, s7, s9, ibin_rem h_q24, ielem_get h_x25, irow_get h_x25, h_x250, h_x251, ibin_shr h_q26, hg28]
                  exact hK _ _ ⟨s1, s2, s6, s7, (by first | rfl | exact s9 | simp only [go_sem, s9, hg28, List.length_append, List.map_append]), s11, s12, s16, s17, s20, s21⟩
              · rintro t h ⟨s1, s2, s6, s7, s9, s11, s12, s16, s17, s20, s21⟩
                simp only [qblock_normal, qseq_normal]
                refine hK19 _ _ ?_
                refine cw_reg_k fun K hK => ?_
                simp only [go_sem, s21]
                refine hK _ _ ?_
                clear hK K
                simp only [qblock_normal, qseq_normal]
                obtain rfl := Option.some.inj hm3
                refine ⟨_, rfl, ?_⟩
                exact ⟨s1, s2, s6, s7, s9, s11, s12, s16, s17, s20, (by first | rfl | exact s21 | simp only [go_sem, s21, List.length_append, List.map_append])⟩
            · rw [if_f hc18] at hm3
              simp only [cw_exit, qseq_exit, qblock_same, qblock_ne, qblock_normal, qseq_normal, Nat.reduceEqDiff, not_false_eq_true]
              obtain rfl := Option.some.inj hm3
              obtain rfl := hb16 _ rfl
              try dsimp only at hm2
              exact J14 made_9 _ _ s1 s2 s6 s7 s9 s11 s12 s16 s17 hm2
        · rw [if_f hc10] at hm2
          simp only [cw_exit, qseq_exit, qblock_same, qblock_ne, qblock_normal, qseq_normal, Nat.reduceEqDiff, not_false_eq_true]
          obtain rfl := Option.some.inj hm2
          obtain rfl := hb8 _ rfl
          try dsimp only at hm1
          exact J7  _ _ s1 s2 s11 s12 hm1
    · rw [if_f hc5] at hm1
      simp only [cw_exit, qseq_exit, qblock_same, qblock_ne, qblock_normal, qseq_normal, Nat.reduceEqDiff, not_false_eq_true]
      obtain rfl := Option.some.inj hm1
      obtain rfl := hb3 _ rfl
      try dsimp only at hm0
      exact J2  _ _  hm0

end Go.Nw.DM

namespace Go.Nw.DM
open Go.Nw.Door
set_option linter.unusedSimpArgs false
set_option linter.unusedVariables false
variable {O : Orac}

theorem k_circuit_isSet (hf : Has O "newel/circuit.isSet" x_circuit_isSet) : C_circuit_isSet O := by
  intro n many r hm0
  unfold circuit_isSet at hm0
  refine fn_cw hf rfl (fz_cons (frz_v _) (fz_cons (frz_v _) fz_nil)) (frz_v _) ?_
  refine cw_start (fun t h => t 0 = I n ∧ t 1 = I many) ⟨rfl, rfl⟩ fun t h ⟨s0, s1⟩ => ?_
  simp only [x_circuit_isSet]
  refine cw_reg_seq fun K hK => ?_
  simp only [go_sem]
  refine hK _ _ ?_
  clear hK K
  obtain ⟨c4, h_c4, hm0⟩ := bind_get hm0
  refine cw_reg_postK (fun t h => t 4 = B c4) (fun K hK => ?_) ?_
  · simp only [go_sem, s0, s1]
    refine ibr_intro (fun hg5 => ?_) (fun hg5 => ?_)
    · simp only [hg5, Bool.not_true, Bool.not_false, eq_self, if_true, if_false, Bool.true_or, Bool.or_true, Bool.false_or, Bool.or_false, Bool.true_and, Bool.and_true, Bool.false_and, Bool.and_false, Bool.false_eq_true] at h_c4
      obtain ⟨q3, h_q3, h_c4⟩ := bind_get h_c4
      obtain rfl := Option.some.inj h_c4
      simp only [go_sem, s0, s1, ibin_shl h_q3, hg5]
      exact hK _ _ (by first | rfl | simp only [go_sem, hg5, List.length_append, List.map_append])
    · simp only [hg5, Bool.not_true, Bool.not_false, eq_self, if_true, if_false, Bool.true_or, Bool.or_true, Bool.false_or, Bool.or_false, Bool.true_and, Bool.and_true, Bool.false_and, Bool.and_false, Bool.false_eq_true] at h_c4
      obtain rfl := Option.some.inj h_c4
      simp only [go_sem, s0, s1, hg5]
      exact hK _ _ (by first | rfl | simp only [go_sem, hg5, List.length_append, List.map_append])
  · rintro t h s4
    simp only [cw_ret, qseq_ret, qblock_ret, retQ_ret]
    obtain rfl := Option.some.inj hm0
    exact done_t (by simp only [go_sem, s4, List.length_append, List.map_append]) (frz_v _)

end Go.Nw.DM

namespace Go.Nw.DM
open Go.Nw.Door
set_option linter.unusedSimpArgs false
set_option linter.unusedVariables false
variable {O : Orac}

theorem k_circuit_shown (hf : Has O "newel/circuit.shown" x_circuit_shown) (k_circuit_shows : C_circuit_shows O) : C_circuit_shown O := by
  intro c t_ r hm0
  unfold circuit_shown at hm0
  refine fn_cw hf rfl (fz_cons (.agg _ (fz_cons (frz_v _) (fz_cons (frz_fs fun a _ => fz_eI a) (fz_cons (frz_fs fun a _ => fz_eWire a) fz_nil)))) (fz_cons (.agg _ (fz_cons (frz_v _) (fz_cons (frz_v _) fz_nil))) fz_nil)) (frz_v _) ?_
  refine cw_start (fun t h => t 0 = .agg [I c.Hazards, .fs 1 (List.map eI c.Switches), .fs 2 (List.map eWire c.Wires)] ∧ t 1 = .agg [I t_.Hazards, I t_.Wire]) ⟨rfl, rfl⟩ fun t h ⟨s0, s1⟩ => ?_
  simp only [x_circuit_shown]
  refine cw_reg_seq fun K hK => ?_
  simp only [go_sem, s0, s1]
  refine hK _ _ ?_
  clear hK K
  refine cw_assoc ?_
  refine cw_reg_seq fun K hK => ?_
  simp only [go_sem]
  refine hK _ _ ?_
  clear hK K
  refine cw_seq_k fun K1 hK1 => ?_
  have J2 : ∀ (set_4 : Int) (t : Slots) (h : Heap), t 4 = I set_4 → circuit_shown_j2 set_4 = some r → K1 t h := by
    intro set_4 t h s4 hm0
    refine hK1 _ _ ?_
    unfold circuit_shown_j2 at hm0
    refine cw_reg_seq fun K hK => ?_
    simp only [go_sem, s4]
    refine hK _ _ ?_
    clear hK K
    simp only [cw_ret, qseq_ret, qblock_ret, retQ_ret]
    obtain rfl := Option.some.inj hm0
    exact done_t (by simp only [go_sem, s4, List.length_append, List.map_append]) (frz_v _)
  simp only [cw_block]
  obtain ⟨b3, hl3, hm0⟩ := bind_get hm0
  refine cw_loopM hl3 (fun | (set_4, x_9), t, h => t 2 = .fp [I c.Hazards, .fs 1 (List.map eI c.Switches), .fs 2 (List.map eWire c.Wires)] 0 ∧ t 3 = .fp [I t_.Hazards, I t_.Wire] 0 ∧ t 4 = I set_4 ∧ t 8 = I (List.length c.Switches : Int) ∧ t 9 = I x_9) ?_ ?_
  · exact ⟨(by first | rfl | simp only [go_sem, List.length_append, List.map_append]), (by first | rfl | simp only [go_sem, List.length_append, List.map_append]), (by first | rfl | simp only [go_sem, List.length_append, List.map_append]), (by first | rfl | simp only [go_sem, List.length_append, List.map_append]), (by first | rfl | simp only [go_sem, List.length_append, List.map_append])⟩
  · rintro ⟨set_4, x_9⟩ o t h ⟨s2, s3, s4, s8, s9⟩ hm1 hb3
    simp only [circuit_shown_L7] at hm1
    rw [x_circuit_shown_L7]
    refine cw_reg_seq fun K hK => ?_
    simp only [go_sem, s8, s9]
    refine hK _ _ ?_
    clear hK K
    refine cw_seq_k fun K4 hK4 => ?_
    simp only [go_sem]
    refine ibr_intro (fun hc5 => ?_) (fun hc5 => ?_)
    · rw [if_t hc5] at hm1
      simp only [cw_skip, qblock_normal, qseq_normal]
      refine hK4 _ _ ?_
      refine cw_seq_k fun K6 hK6 => ?_
      have J7 : ∀ (set_4_1 : Int) (t : Slots) (h : Heap), t 2 = .fp [I c.Hazards, .fs 1 (List.map eI c.Switches), .fs 2 (List.map eWire c.Wires)] 0 → t 3 = .fp [I t_.Hazards, I t_.Wire] 0 → t 4 = I set_4_1 → t 8 = I (List.length c.Switches : Int) → t 9 = I x_9 → circuit_shown_j7 x_9 set_4_1 = some o → K6 t h := by
        intro set_4_1 t h s2 s3 s4 s8 s9 hm1
        refine hK6 _ _ ?_
        unfold circuit_shown_j7 at hm1
        refine cw_reg_k fun K hK => ?_
        simp only [go_sem, s9]
        refine hK _ _ ?_
        clear hK K
        simp only [qblock_normal, qseq_normal]
        obtain rfl := Option.some.inj hm1
        refine ⟨_, rfl, ?_⟩
        exact ⟨s2, s3, s4, s8, (by first | rfl | exact s9 | simp only [go_sem, s9, List.length_append, List.map_append])⟩
      simp only [cw_block]
      refine cw_reg_seq fun K hK => ?_
      simp only [go_sem, s9]
      refine hK _ _ ?_
      clear hK K
      obtain ⟨q10, h_q10, hm1⟩ := bind_get hm1
      obtain ⟨y11, h_y11, hm1⟩ := bind_get hm1
      refine cw_reg_seq fun K hK => ?_
      simp only [go_sem, s2, s3, ibin_shl h_q10]
      refine icall_fn (k_circuit_shows c t_ q10 _ h_y11) ?_
      simp only [go_sem, s2, s3, ibin_shl h_q10]
      refine hK _ _ ?_
      clear hK K
      simp only [go_sem]
      refine ibr_intro (fun hc12 => ?_) (fun hc12 => ?_)
      · rw [if_t hc12] at hm1
        refine cw_reg_k fun K hK => ?_
        simp only [go_sem, s4, ibin_shl h_q10]
        refine hK _ _ ?_
        clear hK K
        simp only [qblock_normal, qseq_normal]
        exact J7 (bor set_4 q10) _ _ s2 s3 (by first | rfl | exact s4 | simp only [go_sem, s4, List.length_append, List.map_append]) s8 s9 hm1
      · rw [if_f hc12] at hm1
        simp only [cw_skip, qblock_normal, qseq_normal]
        exact J7 set_4 _ _ s2 s3 s4 s8 s9 hm1
    · rw [if_f hc5] at hm1
      simp only [cw_exit, qseq_exit, qblock_same, qblock_ne, qblock_normal, qseq_normal, Nat.reduceEqDiff, not_false_eq_true]
      obtain rfl := Option.some.inj hm1
      obtain rfl := hb3 _ rfl
      try dsimp only at hm0
      exact J2 set_4 _ _ s4 hm0

end Go.Nw.DM

namespace Go.Nw.DM
open Go.Nw.Door
set_option linter.unusedSimpArgs false
set_option linter.unusedVariables false
variable {O : Orac}

theorem k_circuit_shows (hf : Has O "newel/circuit.shows" x_circuit_shows) (k__circuit_state__wire : C__circuit_state__wire O) : C_circuit_shows O := by
  intro c t_ closed r hm0
  unfold circuit_shows at hm0
  refine fn_cw hf rfl (fz_cons (.agg _ (fz_cons (frz_v _) (fz_cons (frz_fs fun a _ => fz_eI a) (fz_cons (frz_fs fun a _ => fz_eWire a) fz_nil)))) (fz_cons (.agg _ (fz_cons (frz_v _) (fz_cons (frz_v _) fz_nil))) (fz_cons (frz_v _) fz_nil))) (frz_v _) ?_
  refine cw_start (fun t h => t 0 = .agg [I c.Hazards, .fs 1 (List.map eI c.Switches), .fs 2 (List.map eWire c.Wires)] ∧ t 1 = .agg [I t_.Hazards, I t_.Wire] ∧ t 2 = I closed) ⟨rfl, rfl, rfl⟩ fun t h ⟨s0, s1, s2⟩ => ?_
  simp only [x_circuit_shows]
  refine cw_reg_seq fun K hK => ?_
  simp only [go_sem, s0, s1]
  refine hK _ _ ?_
  clear hK K
  refine cw_reg_seq fun K hK => ?_
  simp only [go_sem, s2]
  refine hK _ _ ?_
  clear hK K
  obtain ⟨y4, h_y4, hm0⟩ := bind_get hm0
  obtain ⟨c6, h_c6, hm0⟩ := bind_get hm0
  refine cw_reg_postK (fun t h => t 6 = B c6) (fun K hK => ?_) ?_
  · simp only [go_sem]
    refine icall_fn (k__circuit_state__wire 1000 (circuit_state.mk c t_.Hazards closed 0) t_.Wire _ h_y4) ?_
    simp only [go_sem]
    refine ibr_intro (fun hg7 => ?_) (fun hg7 => ?_)
    · simp only [hg7, Bool.not_true, Bool.not_false, eq_self, if_true, if_false, Bool.true_or, Bool.or_true, Bool.false_or, Bool.or_false, Bool.true_and, Bool.and_true, Bool.false_and, Bool.and_false, Bool.false_eq_true] at h_c6
      obtain ⟨y5, h_y5, h_c6⟩ := bind_get h_c6
      obtain rfl := Option.some.inj h_c6
      simp only [go_sem, hg7]
      refine icall_fn (k__circuit_state__wire 1000 (circuit_state.mk c t_.Hazards 0 0) t_.Wire _ h_y5) ?_
      simp only [go_sem, hg7]
      exact hK _ _ (by first | rfl | simp only [go_sem, hg7, List.length_append, List.map_append])
    · simp only [hg7, Bool.not_true, Bool.not_false, eq_self, if_true, if_false, Bool.true_or, Bool.or_true, Bool.false_or, Bool.or_false, Bool.true_and, Bool.and_true, Bool.false_and, Bool.and_false, Bool.false_eq_true] at h_c6
      obtain rfl := Option.some.inj h_c6
      simp only [go_sem, hg7]
      exact hK _ _ (by first | rfl | simp only [go_sem, hg7, List.length_append, List.map_append])
  · rintro t h s6
    simp only [cw_ret, qseq_ret, qblock_ret, retQ_ret]
    obtain rfl := Option.some.inj hm0
    exact done_t (by simp only [go_sem, s6, List.length_append, List.map_append]) (frz_v _)

end Go.Nw.DM

namespace Go.Nw.DM
open Go.Nw.Door
set_option linter.unusedSimpArgs false
set_option linter.unusedVariables false
variable {O : Orac}

theorem k_circuit_weak (hf : Has O "newel/circuit.weak" x_circuit_weak) (k__circuit_state__wire : C__circuit_state__wire O) : C_circuit_weak O := by
  intro c closed r hm0
  unfold circuit_weak at hm0
  refine fn_cw hf rfl (fz_cons (.agg _ (fz_cons (frz_v _) (fz_cons (frz_fs fun a _ => fz_eI a) (fz_cons (frz_fs fun a _ => fz_eWire a) fz_nil)))) (fz_cons (frz_v _) fz_nil)) (frz_fs fun a _ => fz_eI a) ?_
  refine cw_start (fun t h => t 0 = .agg [I c.Hazards, .fs 1 (List.map eI c.Switches), .fs 2 (List.map eWire c.Wires)] ∧ t 1 = I closed) ⟨rfl, rfl⟩ fun t h ⟨s0, s1⟩ => ?_
  simp only [x_circuit_weak]
  refine cw_reg_seq fun K hK => ?_
  simp only [go_sem, s0]
  refine hK _ _ ?_
  clear hK K
  refine cw_assoc ?_
  refine cw_reg_seq fun K hK => ?_
  simp only [go_sem]
  refine hK _ _ ?_
  clear hK K
  refine cw_seq_k fun K1 hK1 => ?_
  have J2 : ∀ (out_4 : List Int) (v4 : AV) (t : Slots) (h : Heap), t 4 = v4 → OwnS h v4 1 (List.map eI out_4) → circuit_weak_j2 out_4 = some r → K1 t h := by
    intro out_4 v4 t h s4 ow_o4 hm0
    refine hK1 _ _ ?_
    unfold circuit_weak_j2 at hm0
    refine cw_reg_seq fun K hK => ?_
    simp only [go_sem, s4, istr_of v4]
    refine hK _ _ ?_
    clear hK K
    simp only [cw_ret, qseq_ret, qblock_ret, retQ_ret]
    obtain rfl := Option.some.inj hm0
    exact done_fz (v := v4) (by simp only [go_sem, s4, List.length_append, List.map_append]) (fz_own (f := eI) (l := out_4) (own_later ow_o4 (by intro j hj hl; first | rfl | simp only [go_sem, hl]) (by first | omega | (simp only [go_sem, nxs]; omega))) fz_eI ln_eI)
  simp only [cw_block]
  obtain ⟨b3, hl3, hm0⟩ := bind_get hm0
  refine cw_loopM hl3 (fun | (out_4, x_8), t, h => ∃ v4 : AV, t 1 = I closed ∧ t 2 = .fp [I c.Hazards, .fs 1 (List.map eI c.Switches), .fs 2 (List.map eWire c.Wires)] 0 ∧ t 4 = v4 ∧ t 7 = I c.Hazards ∧ t 8 = I x_8 ∧ OwnS h v4 1 (List.map eI out_4)) ?_ ?_
  · exact ⟨(.v (.slice none 0 0)), s1, (by first | rfl | simp only [go_sem, List.length_append, List.map_append]), (by first | rfl | simp only [go_sem, List.length_append, List.map_append]), (by first | rfl | simp only [go_sem, List.length_append, List.map_append]), (by first | rfl | simp only [go_sem, List.length_append, List.map_append]), own_nil'⟩
  · rintro ⟨out_4, x_8⟩ o t h ⟨v4, s1, s2, s4, s7, s8, ow_o4⟩ hm1 hb3
    simp only [circuit_weak_L7] at hm1
    rw [x_circuit_weak_L7]
    refine cw_reg_seq fun K hK => ?_
    simp only [go_sem, s7, s8, istr_of v4]
    refine hK _ _ ?_
    clear hK K
    refine cw_seq_k fun K4 hK4 => ?_
    simp only [go_sem]
    refine ibr_intro (fun hc5 => ?_) (fun hc5 => ?_)
    · rw [if_t hc5] at hm1
      simp only [cw_skip, qblock_normal, qseq_normal]
      refine hK4 _ _ ?_
      refine cw_seq_k fun K6 hK6 => ?_
      have J7 : ∀ (out_4_1 : List Int) (v4_1 : AV) (t : Slots) (h : Heap), t 1 = I closed → t 2 = .fp [I c.Hazards, .fs 1 (List.map eI c.Switches), .fs 2 (List.map eWire c.Wires)] 0 → t 4 = v4_1 → t 7 = I c.Hazards → t 8 = I x_8 → OwnS h v4_1 1 (List.map eI out_4_1) → circuit_weak_j7 x_8 out_4_1 = some o → K6 t h := by
        intro out_4_1 v4_1 t h s1 s2 s4 s7 s8 ow_o4 hm1
        refine hK6 _ _ ?_
        unfold circuit_weak_j7 at hm1
        refine cw_reg_k fun K hK => ?_
        simp only [go_sem, s8, istr_of v4, istr_of v4_1]
        refine hK _ _ ?_
        clear hK K
        simp only [qblock_normal, qseq_normal]
        obtain rfl := Option.some.inj hm1
        refine ⟨_, rfl, ?_⟩
        exact ⟨v4_1, s1, s2, s4, s7, (by first | rfl | exact s8 | simp only [go_sem, s8, List.length_append, List.map_append]), ow_o4⟩
      simp only [cw_block]
      refine cw_reg_seq fun K hK => ?_
      simp only [go_sem, s8, istr_of v4]
      refine hK _ _ ?_
      clear hK K
      obtain ⟨q10, h_q10, hm1⟩ := bind_get hm1
      obtain ⟨y11, h_y11, hm1⟩ := bind_get hm1
      refine cw_reg_seq fun K hK => ?_
      simp only [go_sem, s1, s2, ibin_shl h_q10, istr_of v4]
      refine icall_fn (k__circuit_state__wire 1000 (circuit_state.mk c q10 closed 0) 0 _ h_y11) ?_
      simp only [go_sem, s1, s2, ibin_shl h_q10, istr_of v4]
      refine hK _ _ ?_
      clear hK K
      simp only [go_sem]
      refine ibr_intro (fun hc12 => ?_) (fun hc12 => ?_)
      · rw [if_t hc12] at hm1
        obtain ⟨l14, h_l14, hm1⟩ := bind_get hm1
        refine cw_reg_k fun K hK => ?_
        simp only [go_sem, s4, istr_of v4]
        refine iapp_own (f := eI) (l := out_4) (m := ([x_8])) ?_ ?_ ?_ ?_ h_l14 ?_
        · exact (own_later ow_o4 (by intro j hj hl; first | rfl | simp only [go_sem, hl]) (by first | omega | (simp only [go_sem, nxs]; omega)))
        · exact (ownx_rs (by simp only [go_sem, List.length_append, List.map_append]) (by simp only [go_sem, List.length_append, List.map_append]))
        · exact (nd_rs (by first | exact notid_nil | exact notid_rs (by first | omega | (simp only [nxs]; omega)) | assumption | exact own_notid (by assumption) (by first | omega | (simp only [go_sem, nxs]; omega))))
        · exact (fun _ => by simp)
        simp only [go_sem, s4, istr_of v4]
        refine hK _ _ ?_
        clear hK K
        simp only [qblock_normal, qseq_normal]
        exact J7 l14 (.rs (nxs h.nx) 0 (List.length l14)) _ _ s1 s2 (by first | rfl | exact s4 | simp only [go_sem, s4, List.length_append, List.map_append]) s7 s8 (own_rs (by simp only [go_sem, List.length_append, List.map_append]) (by simp only [go_sem, List.length_append, List.map_append]) (by simp only [go_sem])) hm1
      · rw [if_f hc12] at hm1
        simp only [cw_skip, qblock_normal, qseq_normal]
        exact J7 out_4 v4 _ _ s1 s2 s4 s7 s8 ow_o4 hm1
    · rw [if_f hc5] at hm1
      simp only [cw_exit, qseq_exit, qblock_same, qblock_ne, qblock_normal, qseq_normal, Nat.reduceEqDiff, not_false_eq_true]
      obtain rfl := Option.some.inj hm1
      obtain rfl := hb3 _ rfl
      try dsimp only at hm0
      exact J2 out_4 v4 _ _ s4 ow_o4 hm0

end Go.Nw.DM

namespace Go.Nw.DM
open Go.Nw.Door
set_option linter.unusedSimpArgs false
set_option linter.unusedVariables false
variable {O : Orac}

theorem k_cmp_Compare_int_ (hf : Has O "cmp.Compare[int]" x_cmp_Compare_int_) (k_cmp_isNaN_int_ : C_cmp_isNaN_int_ O) : C_cmp_Compare_int_ O := by
  intro x y
  generalize hm0 : cmp_Compare_int_ x y = r
  unfold cmp_Compare_int_ at hm0
  refine fn_cw hf rfl (fz_cons (frz_v _) (fz_cons (frz_v _) fz_nil)) (frz_v _) ?_
  refine cw_start (fun t h => t 0 = I x ∧ t 1 = I y) ⟨rfl, rfl⟩ fun t h ⟨s0, s1⟩ => ?_
  simp only [x_cmp_Compare_int_]
  refine cw_reg_seq fun K hK => ?_
  simp only [go_sem]
  refine hK _ _ ?_
  clear hK K
  refine cw_reg_seq fun K hK => ?_
  simp only [go_sem, s0]
  refine icall_fn (k_cmp_isNaN_int_ x) ?_
  simp only [go_sem, s0]
  refine hK _ _ ?_
  clear hK K
  refine cw_reg_seq fun K hK => ?_
  simp only [go_sem, s1]
  refine icall_fn (k_cmp_isNaN_int_ y) ?_
  simp only [go_sem, s1]
  refine hK _ _ ?_
  clear hK K
  refine cw_assoc ?_
  refine cw_reg_seq fun K hK => ?_
  simp only [go_sem]
  refine hK _ _ ?_
  clear hK K
  refine cw_seq_k fun K1 hK1 => ?_
  simp only [go_sem]
  refine ibr_intro (fun hc2 => ?_) (fun hc2 => ?_)
  · rw [if_t hc2] at hm0
    refine cw_assoc ?_
    refine cw_reg_seq fun K hK => ?_
    simp only [go_sem]
    refine hK _ _ ?_
    clear hK K
    refine cw_seq_k fun K3 hK3 => ?_
    simp only [go_sem]
    refine ibr_intro (fun hc4 => ?_) (fun hc4 => ?_)
    · rw [if_t hc4] at hm0
      refine cw_reg_seq fun K hK => ?_
      simp only [go_sem]
      refine hK _ _ ?_
      clear hK K
      simp only [cw_ret, qseq_ret, qblock_ret, retQ_ret]
      obtain rfl := hm0
      exact done_t (by simp only [go_sem, List.length_append, List.map_append]) (frz_v _)
    · rw [if_f hc4] at hm0
      simp only [cw_skip, qblock_normal, qseq_normal]
      refine hK3 _ _ ?_
      refine cw_reg_seq fun K hK => ?_
      simp only [go_sem]
      refine hK _ _ ?_
      clear hK K
      simp only [cw_ret, qseq_ret, qblock_ret, retQ_ret]
      obtain rfl := hm0
      exact done_t (by simp only [go_sem, List.length_append, List.map_append]) (frz_v _)
  · rw [if_f hc2] at hm0
    simp only [cw_skip, qblock_normal, qseq_normal]
    refine hK1 _ _ ?_
    refine cw_assoc ?_
    refine cw_reg_seq fun K hK => ?_
    simp only [go_sem]
    refine hK _ _ ?_
    clear hK K
    refine cw_seq_k fun K5 hK5 => ?_
    simp only [go_sem]
    refine ibr_intro (fun hc6 => ?_) (fun hc6 => ?_)
    · rw [if_t hc6] at hm0
      refine cw_reg_seq fun K hK => ?_
      simp only [go_sem]
      refine hK _ _ ?_
      clear hK K
      simp only [cw_ret, qseq_ret, qblock_ret, retQ_ret]
      obtain rfl := hm0
      exact done_t (by simp only [go_sem, List.length_append, List.map_append]) (frz_v _)
    · rw [if_f hc6] at hm0
      simp only [cw_skip, qblock_normal, qseq_normal]
      refine hK5 _ _ ?_
      refine cw_assoc ?_
      refine cw_reg_seq fun K hK => ?_
      simp only [go_sem, s0, s1]
      refine hK _ _ ?_
      clear hK K
      refine cw_seq_k fun K7 hK7 => ?_
      simp only [go_sem]
      refine ibr_intro (fun hc8 => ?_) (fun hc8 => ?_)
      · rw [if_t hc8] at hm0
        refine cw_reg_seq fun K hK => ?_
        simp only [go_sem]
        refine hK _ _ ?_
        clear hK K
        simp only [cw_ret, qseq_ret, qblock_ret, retQ_ret]
        obtain rfl := hm0
        exact done_t (by simp only [go_sem, List.length_append, List.map_append]) (frz_v _)
      · rw [if_f hc8] at hm0
        simp only [cw_skip, qblock_normal, qseq_normal]
        refine hK7 _ _ ?_
        refine cw_assoc ?_
        refine cw_reg_seq fun K hK => ?_
        simp only [go_sem, s0, s1]
        refine hK _ _ ?_
        clear hK K
        refine cw_seq_k fun K9 hK9 => ?_
        simp only [go_sem]
        refine ibr_intro (fun hc10 => ?_) (fun hc10 => ?_)
        · rw [if_t hc10] at hm0
          refine cw_reg_seq fun K hK => ?_
          simp only [go_sem]
          refine hK _ _ ?_
          clear hK K
          simp only [cw_ret, qseq_ret, qblock_ret, retQ_ret]
          obtain rfl := hm0
          exact done_t (by simp only [go_sem, List.length_append, List.map_append]) (frz_v _)
        · rw [if_f hc10] at hm0
          simp only [cw_skip, qblock_normal, qseq_normal]
          refine hK9 _ _ ?_
          refine cw_reg_seq fun K hK => ?_
          simp only [go_sem]
          refine hK _ _ ?_
          clear hK K
          simp only [cw_ret, qseq_ret, qblock_ret, retQ_ret]
          obtain rfl := hm0
          exact done_t (by simp only [go_sem, List.length_append, List.map_append]) (frz_v _)

end Go.Nw.DM

namespace Go.Nw.DM
open Go.Nw.Door
set_option linter.unusedSimpArgs false
set_option linter.unusedVariables false
variable {O : Orac}

theorem k_cmp_isNaN_int_ (hf : Has O "cmp.isNaN[int]" x_cmp_isNaN_int_) : C_cmp_isNaN_int_ O := by
  intro x
  generalize hm0 : cmp_isNaN_int_ x = r
  unfold cmp_isNaN_int_ at hm0
  refine fn_cw hf rfl (fz_cons (frz_v _) fz_nil) (frz_v _) ?_
  refine cw_start (fun t h => t 0 = I x) rfl fun t h s0 => ?_
  simp only [x_cmp_isNaN_int_]
  refine cw_reg_seq fun K hK => ?_
  simp only [go_sem]
  refine hK _ _ ?_
  clear hK K
  refine cw_reg_seq fun K hK => ?_
  simp only [go_sem, s0]
  refine hK _ _ ?_
  clear hK K
  simp only [cw_ret, qseq_ret, qblock_ret, retQ_ret]
  obtain rfl := hm0
  exact done_t (by simp only [go_sem, List.length_append, List.map_append]) (frz_v _)

end Go.Nw.DM

namespace Go.Nw.DM
open Go.Nw.Door
set_option linter.unusedSimpArgs false
set_option linter.unusedVariables false
variable {O : Orac}

theorem k_l03_CircuitCovers (hf : Has O "newel/newellaw03.CircuitCovers" x_l03_CircuitCovers) (k_l03_Far : C_l03_Far O) (k_r03_CheckTrials : C_r03_CheckTrials O) (k_l03_works : C_l03_works O) (k_circuit_Fewest : C_circuit_Fewest O) (k_circuit_Blind : C_circuit_Blind O) (k_circuit_Shows : C_circuit_Shows O) (k_l03_has : C_l03_has O) : C_l03_CircuitCovers O := by
  intro c l fewer r hm0
  unfold l03_CircuitCovers at hm0
  refine fn_cw hf rfl (fz_cons (.agg _ (fz_cons (frz_v _) (fz_cons (frz_fs fun a _ => fz_eI a) (fz_cons (frz_fs fun a _ => fz_eWire a) fz_nil)))) (fz_cons (frz_fs fun a _ => fz_eTrial a) (fz_cons (frz_v _) fz_nil))) (frz_v _) ?_
  refine cw_start (fun t h => t 0 = .agg [I c.Hazards, .fs 1 (List.map eI c.Switches), .fs 2 (List.map eWire c.Wires)] ∧ t 1 = .fs 2 (List.map eTrial l) ∧ t 2 = I fewer) ⟨rfl, rfl, rfl⟩ fun t h ⟨s0, s1, s2⟩ => ?_
  simp only [x_l03_CircuitCovers]
  refine cw_reg_seq fun K hK => ?_
  simp only [go_sem, s0]
  refine hK _ _ ?_
  clear hK K
  refine cw_assoc ?_
  obtain ⟨y4, h_y4, hm0⟩ := bind_get hm0
  obtain ⟨c6, h_c6, hm0⟩ := bind_get hm0
  refine cw_reg_postK (fun t h => t 1 = .fs 2 (List.map eTrial l) ∧ t 2 = I fewer ∧ t 3 = .fp [I c.Hazards, .fs 1 (List.map eI c.Switches), .fs 2 (List.map eWire c.Wires)] 0 ∧ t 28 = B c6) (fun K hK => ?_) ?_
  · simp only [go_sem, s1]
    refine icall_fn (k_l03_Far c _ h_y4) ?_
    simp only [go_sem, s1]
    refine ibr_intro (fun hg7 => ?_) (fun hg7 => ?_)
    · simp only [hg7, Bool.not_true, Bool.not_false, eq_self, if_true, if_false, Bool.true_or, Bool.or_true, Bool.false_or, Bool.or_false, Bool.true_and, Bool.and_true, Bool.false_and, Bool.and_false, Bool.false_eq_true] at h_c6
      obtain rfl := Option.some.inj h_c6
      simp only [go_sem, s1, hg7]
      exact hK _ _ ⟨s1, s2, (by first | rfl | simp only [go_sem, hg7, List.length_append, List.map_append]), (by first | rfl | simp only [go_sem, hg7, List.length_append, List.map_append])⟩
    · simp only [hg7, Bool.not_true, Bool.not_false, eq_self, if_true, if_false, Bool.true_or, Bool.or_true, Bool.false_or, Bool.or_false, Bool.true_and, Bool.and_true, Bool.false_and, Bool.and_false, Bool.false_eq_true] at h_c6
      obtain ⟨y5, h_y5, h_c6⟩ := bind_get h_c6
      obtain rfl := Option.some.inj h_c6
      simp only [go_sem, s1, hg7]
      refine icall_fn (k_r03_CheckTrials c l _ h_y5) ?_
      simp only [go_sem, s1, hg7]
      exact hK _ _ ⟨s1, s2, (by first | rfl | simp only [go_sem, hg7, List.length_append, List.map_append]), (by first | rfl | simp only [go_sem, hg7, List.length_append, List.map_append])⟩
  · rintro t h ⟨s1, s2, s3, s28⟩
    refine cw_seq_k fun K8 hK8 => ?_
    simp only [go_sem, s28]
    refine ibr_intro (fun hc9 => ?_) (fun hc9 => ?_)
    · rw [if_t hc9] at hm0
      obtain ⟨y11, h_y11, hm0⟩ := bind_get hm0
      refine cw_reg_seq fun K hK => ?_
      simp only [go_sem]
      refine icall_fn (k_l03_works  _ h_y11) ?_
      simp only [go_sem]
      refine hK _ _ ?_
      clear hK K
      simp only [cw_ret, qseq_ret, qblock_ret, retQ_ret]
      obtain rfl := Option.some.inj hm0
      exact done_t (by simp only [go_sem, List.length_append, List.map_append]) (frz_v _)
    · rw [if_f hc9] at hm0
      simp only [cw_skip, qblock_normal, qseq_normal]
      refine hK8 _ _ ?_
      obtain ⟨y13, h_y13, hm0⟩ := bind_get hm0
      refine cw_reg_seq fun K hK => ?_
      simp only [go_sem, s1, s3]
      refine icall_fn (k_circuit_Fewest c l _ h_y13) ?_
      simp only [go_sem, s1, s3]
      refine hK _ _ ?_
      clear hK K
      obtain ⟨y15, h_y15, hm0⟩ := bind_get hm0
      refine cw_reg_seq fun K hK => ?_
      simp only [go_sem, s1, s3]
      refine icall_fn (k_circuit_Blind c l _ h_y15) ?_
      simp only [go_sem, s1, s3]
      refine hK _ _ ?_
      clear hK K
      refine cw_assoc ?_
      refine cw_reg_postK (fun t h => t 1 = .fs 2 (List.map eTrial l) ∧ t 2 = I fewer ∧ t 3 = .fp [I c.Hazards, .fs 1 (List.map eI c.Switches), .fs 2 (List.map eWire c.Wires)] 0 ∧ t 7 = .fs 1 (List.map eI y13.1) ∧ t 9 = .fs 1 (List.map eI y15.1) ∧ t 47 = B ((decide (¬y13.2 = 0)) || (decide (¬y15.2 = 0)))) (fun K hK => ?_) ?_
      · simp only [go_sem]
        refine ibr_intro (fun hg16 => ?_) (fun hg16 => ?_)
        · simp only [go_sem, hg16]
          exact hK _ _ ⟨s1, s2, s3, (by first | rfl | simp only [go_sem, hg16, List.length_append, List.map_append]), (by first | rfl | simp only [go_sem, hg16, List.length_append, List.map_append]), (by first | rfl | simp only [go_sem, hg16, List.length_append, List.map_append])⟩
        · simp only [go_sem, hg16]
          exact hK _ _ ⟨s1, s2, s3, (by first | rfl | simp only [go_sem, hg16, List.length_append, List.map_append]), (by first | rfl | simp only [go_sem, hg16, List.length_append, List.map_append]), (by first | rfl | simp only [go_sem, hg16, List.length_append, List.map_append])⟩
      · rintro t h ⟨s1, s2, s3, s7, s9, s47⟩
        refine cw_seq_k fun K17 hK17 => ?_
        simp only [go_sem, s47]
        refine ibr_intro (fun hc18 => ?_) (fun hc18 => ?_)
        · rw [if_t hc18] at hm0
          refine cw_reg_seq fun K hK => ?_
          simp only [go_sem]
          refine hK _ _ ?_
          clear hK K
          simp only [cw_ret, qseq_ret, qblock_ret, retQ_ret]
          obtain rfl := Option.some.inj hm0
          exact done_t (by simp only [go_sem, List.length_append, List.map_append]) (frz_v _)
        · rw [if_f hc18] at hm0
          simp only [cw_skip, qblock_normal, qseq_normal]
          refine hK17 _ _ ?_
          obtain ⟨l21, h_l21, hm0⟩ := bind_get hm0
          obtain ⟨l22, h_l22, hm0⟩ := bind_get hm0
          refine cw_reg_seq fun K hK => ?_
          simp only [go_sem, s3]
          refine imksl_ok (f := eB) (z := false) rfl h_l21 ?_
          simp only [go_sem, s3]
          refine imksl_ok (f := eB) (z := false) rfl h_l22 ?_
          simp only [go_sem, s3]
          refine hK _ _ ?_
          clear hK K
          refine cw_reg_seq fun K hK => ?_
          simp only [go_sem]
          refine hK _ _ ?_
          clear hK K
          refine cw_assoc ?_
          refine cw_reg_seq fun K hK => ?_
          simp only [go_sem]
          refine hK _ _ ?_
          clear hK K
          refine cw_seq_k fun K23 hK23 => ?_
          have J24 : ∀ (chosen_11 : List Bool) (others_12 : List Bool) (count_13 : Int) (i11 : Nat) (i12 : Nat) (t : Slots) (h : Heap), t 7 = .fs 1 (List.map eI y13.1) → t 9 = .fs 1 (List.map eI y15.1) → t 11 = .rs i11 0 (List.length chosen_11) → t 12 = .rs i12 0 (List.length others_12) → t 13 = I count_13 → h.ob i11 = some (1, List.map eB chosen_11) → i11 < h.nx → h.ob i12 = some (1, List.map eB others_12) → i12 < h.nx → ¬i11 = i12 → l03_CircuitCovers_j24 y13 y15 chosen_11 others_12 count_13 = some r → K23 t h := by
            intro chosen_11 others_12 count_13 i11 i12 t h s7 s9 s11 s12 s13 ob_o11 lt_o11 ob_o12 lt_o12 ne_o11_o12 hm0
            refine hK23 _ _ ?_
            unfold l03_CircuitCovers_j24 at hm0
            refine cw_reg_seq fun K hK => ?_
            simp only [go_sem, lt_o11, lt_o12]
            refine hK _ _ ?_
            clear hK K
            refine cw_assoc ?_
            refine cw_reg_seq fun K hK => ?_
            simp only [go_sem, lt_o11, lt_o12]
            refine hK _ _ ?_
            clear hK K
            refine cw_seq_k fun K25 hK25 => ?_
            have J26 : ∀ (whole_19 : Bool) (t : Slots) (h : Heap), t 7 = .fs 1 (List.map eI y13.1) → t 13 = I count_13 → t 19 = B whole_19 → l03_CircuitCovers_j26 y13 count_13 whole_19 = some r → K25 t h := by
              intro whole_19 t h s7 s13 s19 hm0
              refine hK25 _ _ ?_
              unfold l03_CircuitCovers_j26 at hm0
              obtain ⟨c30, h_c30, hm0⟩ := bind_get hm0
              refine cw_reg_postK (fun t h => t 6 = B c30) (fun K hK => ?_) ?_
              · simp only [go_sem, s7, s13, s19]
                refine ibr_intro (fun hg31 => ?_) (fun hg31 => ?_)
                · simp only [hg31, Bool.not_true, Bool.not_false, eq_self, if_true, if_false, Bool.true_or, Bool.or_true, Bool.false_or, Bool.or_false, Bool.true_and, Bool.and_true, Bool.false_and, Bool.and_false, Bool.false_eq_true] at h_c30
                  obtain ⟨y29, h_y29, h_c30⟩ := bind_get h_c30
                  obtain rfl := Option.some.inj h_c30
                  simp only [go_sem, s7, s13, s19, hg31]
                  refine icall_fn (k_l03_works  _ h_y29) ?_
                  simp only [go_sem, s7, s13, s19, hg31]
                  exact hK _ _ (by first | rfl | simp only [go_sem, hg31, List.length_append, List.map_append])
                · simp only [go_sem, s7, s13, s19, hg31]
                  refine ibr_intro (fun hg32 => ?_) (fun hg32 => ?_)
                  · simp only [hg31, hg32, Bool.not_true, Bool.not_false, eq_self, if_true, if_false, Bool.true_or, Bool.or_true, Bool.false_or, Bool.or_false, Bool.true_and, Bool.and_true, Bool.false_and, Bool.and_false, Bool.false_eq_true] at h_c30
                    obtain ⟨y29, h_y29, h_c30⟩ := bind_get h_c30
                    obtain rfl := Option.some.inj h_c30
                    simp only [go_sem, s7, s13, s19, hg31, hg32]
                    refine icall_fn (k_l03_works  _ h_y29) ?_
                    simp only [go_sem, s7, s13, s19, hg31, hg32]
                    exact hK _ _ (by first | rfl | simp only [go_sem, hg31, hg32, List.length_append, List.map_append])
                  · simp only [hg31, hg32, Bool.not_true, Bool.not_false, eq_self, if_true, if_false, Bool.true_or, Bool.or_true, Bool.false_or, Bool.or_false, Bool.true_and, Bool.and_true, Bool.false_and, Bool.and_false, Bool.false_eq_true] at h_c30
                    obtain rfl := Option.some.inj h_c30
                    simp only [go_sem, s7, s13, s19, hg31, hg32]
                    exact hK _ _ (by first | rfl | simp only [go_sem, hg31, hg32, List.length_append, List.map_append])
              · rintro t h s6
                simp only [cw_ret, qseq_ret, qblock_ret, retQ_ret]
                obtain rfl := Option.some.inj hm0
                exact done_t (by simp only [go_sem, s6, List.length_append, List.map_append]) (frz_v _)
            simp only [cw_block]
            obtain ⟨b33, hl33, hm0⟩ := bind_get hm0
            refine cw_loopM hl33 (fun | (whole_19, s_20), t, h => t 7 = .fs 1 (List.map eI y13.1) ∧ t 9 = .fs 1 (List.map eI y15.1) ∧ t 11 = .rs i11 0 (List.length chosen_11) ∧ t 12 = .rs i12 0 (List.length others_12) ∧ t 13 = I count_13 ∧ t 19 = B whole_19 ∧ t 20 = I s_20 ∧ h.ob i11 = some (1, List.map eB chosen_11) ∧ i11 < h.nx ∧ h.ob i12 = some (1, List.map eB others_12) ∧ i12 < h.nx ∧ ¬i11 = i12) ?_ ?_
            · exact ⟨s7, s9, (by first | exact s11 | simp only [go_sem, s11, List.length_append, List.map_append]), (by first | exact s12 | simp only [go_sem, s12, List.length_append, List.map_append]), s13, (by first | rfl | simp only [go_sem, List.length_append, List.map_append]), (by first | rfl | simp only [go_sem, List.length_append, List.map_append]), ob_o11, lt_o11, ob_o12, lt_o12, (by omega)⟩
            · rintro ⟨whole_19, s_20⟩ o t h ⟨s7, s9, s11, s12, s13, s19, s20, ob_o11, lt_o11, ob_o12, lt_o12, ne_o11_o12⟩ hm1 hb33
              simp only [l03_CircuitCovers_L34] at hm1
              rw [x_l03_CircuitCovers_L34]
              refine cw_assoc ?_
              refine cw_reg_seq fun K hK => ?_
              simp only [go_sem, s11, s20, ob_o11, lt_o11, lt_o12, ne_o11_o12, nsym ne_o11_o12]
              refine hK _ _ ?_
              clear hK K
              refine cw_seq_k fun K34 hK34 => ?_
              simp only [go_sem]
              refine ibr_intro (fun hc35 => ?_) (fun hc35 => ?_)
              · rw [if_t hc35] at hm1
                simp only [cw_skip, qblock_normal, qseq_normal]
                refine hK34 _ _ ?_
                refine cw_seq_k fun K36 hK36 => ?_
                simp only [cw_block]
                refine cw_assoc ?_
                obtain ⟨x39, h_x39, hm1⟩ := bind_get hm1
                have h_x390 := get_nn h_x39
                have h_x391 := get_lt h_x39
                obtain ⟨y40, h_y40, hm1⟩ := bind_get hm1
                refine cw_reg_seq fun K hK => ?_
                simp only [go_sem, s9, s11, s20, ob_o11, lt_o11, lt_o12, ne_o11_o12, nsym ne_o11_o12, ielem_get h_x39, irow_get h_x39, h_x390, h_x391]
                refine icall_fn (k_l03_has y15.1 s_20 _ h_y40) ?_
                simp only [go_sem, s9, s11, s20, ob_o11, lt_o11, lt_o12, ne_o11_o12, nsym ne_o11_o12, ielem_get h_x39, irow_get h_x39, h_x390, h_x391]
                refine hK _ _ ?_
                clear hK K
                refine cw_seq_k fun K41 hK41 => ?_
                simp only [go_sem]
                refine ibr_intro (fun hc42 => ?_) (fun hc42 => ?_)
                · rw [if_t hc42] at hm1
                  refine cw_reg_seq fun K hK => ?_
                  simp only [go_sem, lt_o11, lt_o12]
                  refine hK _ _ ?_
                  clear hK K
                  simp only [cw_ret, qseq_ret, qblock_ret, retQ_ret]
                  obtain rfl := Option.some.inj hm1
                  obtain rfl := hb33 _ rfl
                  try dsimp only at hm0
                  obtain rfl := Option.some.inj hm0
                  exact done_t (by simp only [go_sem, ob_o11, lt_o11, ob_o12, lt_o12, ne_o11_o12, nsym ne_o11_o12, List.length_append, List.map_append]) (frz_v _)
                · rw [if_f hc42] at hm1
                  simp only [cw_skip, qblock_normal, qseq_normal]
                  refine hK41 _ _ ?_
                  obtain ⟨c50, h_c50, hm1⟩ := bind_get hm1
                  refine cw_reg_postK1 (fun t h => t 7 = .fs 1 (List.map eI y13.1) ∧ t 9 = .fs 1 (List.map eI y15.1) ∧ t 11 = .rs i11 0 (List.length chosen_11) ∧ t 12 = .rs i12 0 (List.length others_12) ∧ t 13 = I count_13 ∧ t 19 = B c50 ∧ t 20 = I s_20 ∧ h.ob i11 = some (1, List.map eB chosen_11) ∧ i11 < h.nx ∧ h.ob i12 = some (1, List.map eB others_12) ∧ i12 < h.nx ∧ ¬i11 = i12) (fun K hK => ?_) ?_
                  · simp only [go_sem, s9, s12, s19, s20, ob_o12, lt_o12, lt_o11, ne_o11_o12, nsym ne_o11_o12]
                    refine ibr_intro (fun hg51 => ?_) (fun hg51 => ?_)
                    · simp only [hg51, Bool.not_true, Bool.not_false, eq_self, if_true, if_false, Bool.true_or, Bool.or_true, Bool.false_or, Bool.or_false, Bool.true_and, Bool.and_true, Bool.false_and, Bool.and_false, Bool.false_eq_true] at h_c50
                      obtain ⟨x47, h_x47, h_c50⟩ := bind_get h_c50
                      have h_x470 := get_nn h_x47
                      have h_x471 := get_lt h_x47
                      obtain ⟨c49, h_c49, h_c50⟩ := bind_get h_c50
                      obtain rfl := Option.some.inj h_c50
                      simp only [go_sem, s9, s12, s19, s20, ob_o12, lt_o12, lt_o11, ne_o11_o12, nsym ne_o11_o12, ielem_get h_x47, irow_get h_x47, h_x470, h_x471, hg51]
                      refine ibr_intro (fun hg52 => ?_) (fun hg52 => ?_)
                      · simp only [hg51, hg52, Bool.not_true, Bool.not_false, eq_self, if_true, if_false, Bool.true_or, Bool.or_true, Bool.false_or, Bool.or_false, Bool.true_and, Bool.and_true, Bool.false_and, Bool.and_false, Bool.false_eq_true] at h_c49
                        obtain rfl := Option.some.inj h_c49
                        simp only [go_sem, s9, s12, s19, s20, ob_o12, lt_o12, lt_o11, ne_o11_o12, nsym ne_o11_o12, ielem_get h_x47, irow_get h_x47, h_x470, h_x471, hg51, hg52]
                        exact hK _ _ ⟨s7, s9, (by first | exact s11 | simp only [go_sem, s11, List.length_append, List.map_append]), (by first | exact s12 | simp only [go_sem, s12, List.length_append, List.map_append]), s13, (by first | rfl | exact s19 | simp only [go_sem, s19, hg51, hg52, List.length_append, List.map_append]), s20, ob_o11, lt_o11, ob_o12, lt_o12, (by omega)⟩
                      · simp only [hg51, hg52, Bool.not_true, Bool.not_false, eq_self, if_true, if_false, Bool.true_or, Bool.or_true, Bool.false_or, Bool.or_false, Bool.true_and, Bool.and_true, Bool.false_and, Bool.and_false, Bool.false_eq_true] at h_c49
                        obtain ⟨y48, h_y48, h_c49⟩ := bind_get h_c49
                        obtain rfl := Option.some.inj h_c49
                        simp only [go_sem, s9, s12, s19, s20, ob_o12, lt_o12, lt_o11, ne_o11_o12, nsym ne_o11_o12, ielem_get h_x47, irow_get h_x47, h_x470, h_x471, hg51, hg52]
                        refine icall_fn (k_l03_has y15.1 s_20 _ h_y48) ?_
                        simp only [go_sem, s9, s12, s19, s20, ob_o12, lt_o12, lt_o11, ne_o11_o12, nsym ne_o11_o12, ielem_get h_x47, irow_get h_x47, h_x470, h_x471, hg51, hg52]
                        exact hK _ _ ⟨s7, s9, (by first | exact s11 | simp only [go_sem, s11, List.length_append, List.map_append]), (by first | exact s12 | simp only [go_sem, s12, List.length_append, List.map_append]), s13, (by first | rfl | exact s19 | simp only [go_sem, s19, hg51, hg52, List.length_append, List.map_append]), s20, ob_o11, lt_o11, ob_o12, lt_o12, (by omega)⟩
                    · simp only [hg51, Bool.not_true, Bool.not_false, eq_self, if_true, if_false, Bool.true_or, Bool.or_true, Bool.false_or, Bool.or_false, Bool.true_and, Bool.and_true, Bool.false_and, Bool.and_false, Bool.false_eq_true] at h_c50
                      obtain rfl := Option.some.inj h_c50
                      simp only [go_sem, s9, s12, s19, s20, ob_o12, lt_o12, lt_o11, ne_o11_o12, nsym ne_o11_o12, hg51]
                      exact hK _ _ ⟨s7, s9, (by first | exact s11 | simp only [go_sem, s11, List.length_append, List.map_append]), (by first | exact s12 | simp only [go_sem, s12, List.length_append, List.map_append]), s13, (by first | rfl | exact s19 | simp only [go_sem, s19, hg51, List.length_append, List.map_append]), s20, ob_o11, lt_o11, ob_o12, lt_o12, (by omega)⟩
                  · rintro t h ⟨s7, s9, s11, s12, s13, s19, s20, ob_o11, lt_o11, ob_o12, lt_o12, ne_o11_o12⟩
                    simp only [qblock_normal, qseq_normal]
                    refine hK36 _ _ ?_
                    refine cw_reg_k fun K hK => ?_
                    simp only [go_sem, s20, lt_o11, lt_o12]
                    refine hK _ _ ?_
                    clear hK K
                    simp only [qblock_normal, qseq_normal]
                    obtain rfl := Option.some.inj hm1
                    refine ⟨_, rfl, ?_⟩
                    exact ⟨s7, s9, (by first | exact s11 | simp only [go_sem, s11, List.length_append, List.map_append]), (by first | exact s12 | simp only [go_sem, s12, List.length_append, List.map_append]), s13, s19, (by first | rfl | exact s20 | simp only [go_sem, s20, List.length_append, List.map_append]), ob_o11, lt_o11, ob_o12, lt_o12, (by omega)⟩
              · rw [if_f hc35] at hm1
                simp only [cw_exit, qseq_exit, qblock_same, qblock_ne, qblock_normal, qseq_normal, Nat.reduceEqDiff, not_false_eq_true]
                obtain rfl := Option.some.inj hm1
                obtain rfl := hb33 _ rfl
                try dsimp only at hm0
                exact J26 whole_19 _ _ s7 s13 s19 hm0
          simp only [cw_block]
          obtain ⟨b54, hl54, hm0⟩ := bind_get hm0
          refine cw_loopM hl54 (fun | (chosen_11, others_12, count_13, i_14), t, h => ∃ i11 : Nat, ∃ i12 : Nat, t 1 = .fs 2 (List.map eTrial l) ∧ t 2 = I fewer ∧ t 3 = .fp [I c.Hazards, .fs 1 (List.map eI c.Switches), .fs 2 (List.map eWire c.Wires)] 0 ∧ t 7 = .fs 1 (List.map eI y13.1) ∧ t 9 = .fs 1 (List.map eI y15.1) ∧ t 11 = .rs i11 0 (List.length chosen_11) ∧ t 12 = .rs i12 0 (List.length others_12) ∧ t 13 = I count_13 ∧ t 14 = I i_14 ∧ h.ob i11 = some (1, List.map eB chosen_11) ∧ i11 < h.nx ∧ h.ob i12 = some (1, List.map eB others_12) ∧ i12 < h.nx ∧ ¬i11 = i12) ?_ ?_
          · exact ⟨h.nx, (nxs h.nx), s1, s2, s3, s7, s9, (by first | rfl | simp only [go_sem, List.length_append, List.map_append]), (by first | rfl | simp only [go_sem, List.length_append, List.map_append]), (by first | rfl | simp only [go_sem, List.length_append, List.map_append]), (by first | rfl | simp only [go_sem, List.length_append, List.map_append]), (by simp only [go_sem, List.length_append, List.map_append]), (by simp only [go_sem]), (by simp only [go_sem, List.length_append, List.map_append]), (by simp only [go_sem]), (by first | omega | (simp only [nxs]; omega))⟩
          · rintro ⟨chosen_11, others_12, count_13, i_14⟩ o t h ⟨i11, i12, s1, s2, s3, s7, s9, s11, s12, s13, s14, ob_o11, lt_o11, ob_o12, lt_o12, ne_o11_o12⟩ hm1 hb54
            simp only [l03_CircuitCovers_L26] at hm1
            rw [x_l03_CircuitCovers_L26]
            refine cw_assoc ?_
            refine cw_reg_seq fun K hK => ?_
            simp only [go_sem, s1, s14, lt_o11, lt_o12]
            refine hK _ _ ?_
            clear hK K
            refine cw_seq_k fun K55 hK55 => ?_
            simp only [go_sem]
            refine ibr_intro (fun hc56 => ?_) (fun hc56 => ?_)
            · rw [if_t hc56] at hm1
              simp only [cw_skip, qblock_normal, qseq_normal]
              refine hK55 _ _ ?_
              refine cw_seq_k fun K57 hK57 => ?_
              have J58 : ∀ (chosen_11_1 : List Bool) (others_12_1 : List Bool) (count_13_1 : Int) (t : Slots) (h : Heap), t 1 = .fs 2 (List.map eTrial l) → t 2 = I fewer → t 3 = .fp [I c.Hazards, .fs 1 (List.map eI c.Switches), .fs 2 (List.map eWire c.Wires)] 0 → t 7 = .fs 1 (List.map eI y13.1) → t 9 = .fs 1 (List.map eI y15.1) → t 11 = .rs i11 0 (List.length chosen_11_1) → t 12 = .rs i12 0 (List.length others_12_1) → t 13 = I count_13_1 → t 14 = I i_14 → h.ob i11 = some (1, List.map eB chosen_11_1) → i11 < h.nx → h.ob i12 = some (1, List.map eB others_12_1) → i12 < h.nx → ¬i11 = i12 → l03_CircuitCovers_j58 i_14 chosen_11_1 others_12_1 count_13_1 = some o → K57 t h := by
                intro chosen_11_1 others_12_1 count_13_1 t h s1 s2 s3 s7 s9 s11 s12 s13 s14 ob_o11 lt_o11 ob_o12 lt_o12 ne_o11_o12 hm1
                refine hK57 _ _ ?_
                unfold l03_CircuitCovers_j58 at hm1
                refine cw_reg_k fun K hK => ?_
                simp only [go_sem, s14, lt_o11, lt_o12]
                refine hK _ _ ?_
                clear hK K
                simp only [qblock_normal, qseq_normal]
                obtain rfl := Option.some.inj hm1
                refine ⟨_, rfl, ?_⟩
                exact ⟨i11, i12, s1, s2, s3, s7, s9, (by first | exact s11 | simp only [go_sem, s11, List.length_append, List.map_append]), (by first | exact s12 | simp only [go_sem, s12, List.length_append, List.map_append]), s13, (by first | rfl | exact s14 | simp only [go_sem, s14, List.length_append, List.map_append]), ob_o11, lt_o11, ob_o12, lt_o12, (by omega)⟩
              simp only [cw_block]
              obtain ⟨y60, h_y60, hm1⟩ := bind_get hm1
              refine cw_reg_seq fun K hK => ?_
              simp only [go_sem, s1, s3, s14, lt_o11, lt_o12]
              refine icall_fn (k_circuit_Shows c l i_14 _ h_y60) ?_
              simp only [go_sem, s1, s3, s14, lt_o11, lt_o12]
              refine hK _ _ ?_
              clear hK K
              refine cw_assoc ?_
              refine cw_reg_seq fun K hK => ?_
              simp only [go_sem, lt_o11, lt_o12]
              refine hK _ _ ?_
              clear hK K
              refine cw_seq_k fun K61 hK61 => ?_
              simp only [go_sem]
              refine ibr_intro (fun hc62 => ?_) (fun hc62 => ?_)
              · rw [if_t hc62] at hm1
                refine cw_reg_seq fun K hK => ?_
                simp only [go_sem, lt_o11, lt_o12]
                refine hK _ _ ?_
                clear hK K
                simp only [cw_ret, qseq_ret, qblock_ret, retQ_ret]
                obtain rfl := Option.some.inj hm1
                obtain rfl := hb54 _ rfl
                try dsimp only at hm0
                obtain rfl := Option.some.inj hm0
                exact done_t (by simp only [go_sem, ob_o11, lt_o11, ob_o12, lt_o12, ne_o11_o12, nsym ne_o11_o12, List.length_append, List.map_append]) (frz_v _)
              · rw [if_f hc62] at hm1
                simp only [cw_skip, qblock_normal, qseq_normal]
                refine hK61 _ _ ?_
                obtain ⟨q64, h_q64, hm1⟩ := bind_get hm1
                refine cw_reg_seq fun K hK => ?_
                simp only [go_sem, s2, s14, lt_o11, lt_o12, ibin_shr h_q64]
                refine hK _ _ ?_
                clear hK K
                refine cw_assoc ?_
                refine cw_reg_seq fun K hK => ?_
                simp only [go_sem, lt_o11, lt_o12]
                refine hK _ _ ?_
                clear hK K
                refine cw_seq_k fun K65 hK65 => ?_
                have J66 : ∀ (count_13_1 : Int) (t : Slots) (h : Heap), t 1 = .fs 2 (List.map eTrial l) → t 2 = I fewer → t 3 = .fp [I c.Hazards, .fs 1 (List.map eI c.Switches), .fs 2 (List.map eWire c.Wires)] 0 → t 7 = .fs 1 (List.map eI y13.1) → t 9 = .fs 1 (List.map eI y15.1) → t 11 = .rs i11 0 (List.length chosen_11) → t 12 = .rs i12 0 (List.length others_12) → t 13 = I count_13_1 → t 14 = I i_14 → t 15 = .fs 1 (List.map eI y60.1) → t 17 = B (decide ((band q64 1) = 1)) → h.ob i11 = some (1, List.map eB chosen_11) → i11 < h.nx → h.ob i12 = some (1, List.map eB others_12) → i12 < h.nx → ¬i11 = i12 → l03_CircuitCovers_j66 y13 chosen_11 others_12 i_14 y60 q64 count_13_1 = some o → K65 t h := by
                  intro count_13_1 t h s1 s2 s3 s7 s9 s11 s12 s13 s14 s15 s17 ob_o11 lt_o11 ob_o12 lt_o12 ne_o11_o12 hm1
                  refine hK65 _ _ ?_
                  unfold l03_CircuitCovers_j66 at hm1
                  refine cw_reg_seq fun K hK => ?_
                  simp only [go_sem, lt_o11, lt_o12]
                  refine hK _ _ ?_
                  clear hK K
                  simp only [cw_block]
                  obtain ⟨b67, hl67, hm1⟩ := bind_get hm1
                  refine cw_loopM hl67 (fun | (chosen_11_1, others_12_1, k_18), t, h => t 1 = .fs 2 (List.map eTrial l) ∧ t 2 = I fewer ∧ t 3 = .fp [I c.Hazards, .fs 1 (List.map eI c.Switches), .fs 2 (List.map eWire c.Wires)] 0 ∧ t 7 = .fs 1 (List.map eI y13.1) ∧ t 9 = .fs 1 (List.map eI y15.1) ∧ t 11 = .rs i11 0 (List.length chosen_11_1) ∧ t 12 = .rs i12 0 (List.length others_12_1) ∧ t 13 = I count_13_1 ∧ t 14 = I i_14 ∧ t 15 = .fs 1 (List.map eI y60.1) ∧ t 17 = B (decide ((band q64 1) = 1)) ∧ t 18 = I k_18 ∧ h.ob i11 = some (1, List.map eB chosen_11_1) ∧ i11 < h.nx ∧ h.ob i12 = some (1, List.map eB others_12_1) ∧ i12 < h.nx ∧ ¬i11 = i12) ?_ ?_
                  · exact ⟨s1, s2, s3, s7, s9, (by first | exact s11 | simp only [go_sem, s11, List.length_append, List.map_append]), (by first | exact s12 | simp only [go_sem, s12, List.length_append, List.map_append]), s13, s14, s15, s17, (by first | rfl | simp only [go_sem, List.length_append, List.map_append]), ob_o11, lt_o11, ob_o12, lt_o12, (by omega)⟩
                  · rintro ⟨chosen_11_1, others_12_1, k_18⟩ o t h ⟨s1, s2, s3, s7, s9, s11, s12, s13, s14, s15, s17, s18, ob_o11, lt_o11, ob_o12, lt_o12, ne_o11_o12⟩ hm2 hb67
                    simp only [l03_CircuitCovers_L24] at hm2
                    rw [x_l03_CircuitCovers_L24]
                    refine cw_assoc ?_
                    refine cw_reg_seq fun K hK => ?_
                    simp only [go_sem, s15, s18, lt_o11, lt_o12]
                    refine hK _ _ ?_
                    clear hK K
                    refine cw_seq_k fun K68 hK68 => ?_
                    simp only [go_sem]
                    refine ibr_intro (fun hc69 => ?_) (fun hc69 => ?_)
                    · rw [if_t hc69] at hm2
                      simp only [cw_skip, qblock_normal, qseq_normal]
                      refine hK68 _ _ ?_
                      refine cw_seq_k fun K70 hK70 => ?_
                      simp only [cw_block]
                      refine cw_assoc ?_
                      obtain ⟨x72, h_x72, hm2⟩ := bind_get hm2
                      have h_x720 := get_nn h_x72
                      have h_x721 := get_lt h_x72
                      refine cw_reg_postK (fun t h => t 1 = .fs 2 (List.map eTrial l) ∧ t 2 = I fewer ∧ t 3 = .fp [I c.Hazards, .fs 1 (List.map eI c.Switches), .fs 2 (List.map eWire c.Wires)] 0 ∧ t 7 = .fs 1 (List.map eI y13.1) ∧ t 9 = .fs 1 (List.map eI y15.1) ∧ t 11 = .rs i11 0 (List.length chosen_11_1) ∧ t 12 = .rs i12 0 (List.length others_12_1) ∧ t 13 = I count_13_1 ∧ t 14 = I i_14 ∧ t 15 = .fs 1 (List.map eI y60.1) ∧ t 17 = B (decide ((band q64 1) = 1)) ∧ t 18 = I k_18 ∧ t 99 = B ((decide (x72 < 0)) || (decide (((List.length chosen_11_1 : Nat) : Int) ≤ x72))) ∧ h.ob i11 = some (1, List.map eB chosen_11_1) ∧ i11 < h.nx ∧ h.ob i12 = some (1, List.map eB others_12_1) ∧ i12 < h.nx ∧ ¬i11 = i12) (fun K hK => ?_) ?_
                      · simp only [go_sem, s11, s15, s18, ob_o11, lt_o11, lt_o12, ne_o11_o12, nsym ne_o11_o12, ielem_get h_x72, irow_get h_x72, h_x720, h_x721]
                        refine ibr_intro (fun hg73 => ?_) (fun hg73 => ?_)
                        · simp only [go_sem, s11, s15, s18, ob_o11, lt_o11, lt_o12, ne_o11_o12, nsym ne_o11_o12, ielem_get h_x72, irow_get h_x72, h_x720, h_x721, hg73]
                          exact hK _ _ ⟨s1, s2, s3, s7, s9, (by first | exact s11 | simp only [go_sem, s11, List.length_append, List.map_append]), (by first | exact s12 | simp only [go_sem, s12, List.length_append, List.map_append]), s13, s14, s15, s17, s18, (by first | rfl | simp only [go_sem, hg73, List.length_append, List.map_append]), ob_o11, lt_o11, ob_o12, lt_o12, (by omega)⟩
                        · simp only [go_sem, s11, s15, s18, ob_o11, lt_o11, lt_o12, ne_o11_o12, nsym ne_o11_o12, ielem_get h_x72, irow_get h_x72, h_x720, h_x721, hg73]
                          exact hK _ _ ⟨s1, s2, s3, s7, s9, (by first | exact s11 | simp only [go_sem, s11, List.length_append, List.map_append]), (by first | exact s12 | simp only [go_sem, s12, List.length_append, List.map_append]), s13, s14, s15, s17, s18, (by first | rfl | simp only [go_sem, hg73, List.length_append, List.map_append]), ob_o11, lt_o11, ob_o12, lt_o12, (by omega)⟩
                      · rintro t h ⟨s1, s2, s3, s7, s9, s11, s12, s13, s14, s15, s17, s18, s99, ob_o11, lt_o11, ob_o12, lt_o12, ne_o11_o12⟩
                        refine cw_seq_k fun K74 hK74 => ?_
                        simp only [go_sem, s99]
                        refine ibr_intro (fun hc75 => ?_) (fun hc75 => ?_)
                        · rw [if_t hc75] at hm2
                          refine cw_reg_seq fun K hK => ?_
                          simp only [go_sem, lt_o11, lt_o12]
                          refine hK _ _ ?_
                          clear hK K
                          simp only [cw_ret, qseq_ret, qblock_ret, retQ_ret]
                          obtain rfl := Option.some.inj hm2
                          obtain rfl := hb67 _ rfl
                          try dsimp only at hm1
                          obtain rfl := Option.some.inj hm1
                          obtain rfl := hb54 _ rfl
                          try dsimp only at hm0
                          obtain rfl := Option.some.inj hm0
                          exact done_t (by simp only [go_sem, ob_o11, lt_o11, ob_o12, lt_o12, ne_o11_o12, nsym ne_o11_o12, List.length_append, List.map_append]) (frz_v _)
                        · rw [if_f hc75] at hm2
                          simp only [cw_skip, qblock_normal, qseq_normal]
                          refine hK74 _ _ ?_
                          obtain ⟨x79, h_x79, hm2⟩ := bind_get hm2
                          have h_x790 := get_nn h_x79
                          have h_x791 := get_lt h_x79
                          obtain ⟨c81, h_c81, hm2⟩ := bind_get hm2
                          refine cw_reg_postK (fun t h => t 1 = .fs 2 (List.map eTrial l) ∧ t 2 = I fewer ∧ t 3 = .fp [I c.Hazards, .fs 1 (List.map eI c.Switches), .fs 2 (List.map eWire c.Wires)] 0 ∧ t 7 = .fs 1 (List.map eI y13.1) ∧ t 9 = .fs 1 (List.map eI y15.1) ∧ t 11 = .rs i11 0 (List.length (List.set chosen_11_1 (Int.toNat x72) c81)) ∧ t 12 = .rs i12 0 (List.length others_12_1) ∧ t 13 = I count_13_1 ∧ t 14 = I i_14 ∧ t 15 = .fs 1 (List.map eI y60.1) ∧ t 17 = B (decide ((band q64 1) = 1)) ∧ t 18 = I k_18 ∧ h.ob i11 = some (1, List.map eB (List.set chosen_11_1 (Int.toNat x72) c81)) ∧ i11 < h.nx ∧ h.ob i12 = some (1, List.map eB others_12_1) ∧ i12 < h.nx ∧ ¬i11 = i12) (fun K hK => ?_) ?_
                          · simp only [go_sem, s7, s11, s14, s15, s18, ob_o11, lt_o11, lt_o12, ne_o11_o12, nsym ne_o11_o12, ielem_get h_x79, irow_get h_x79, h_x790, h_x791, ielem_get h_x72, irow_get h_x72, h_x720, h_x721]
                            refine ibr_intro (fun hg82 => ?_) (fun hg82 => ?_)
                            · simp only [hg82, Bool.not_true, Bool.not_false, eq_self, if_true, if_false, Bool.true_or, Bool.or_true, Bool.false_or, Bool.or_false, Bool.true_and, Bool.and_true, Bool.false_and, Bool.and_false, Bool.false_eq_true] at h_c81
                              obtain rfl := Option.some.inj h_c81
                              simp only [go_sem, s7, s11, s14, s15, s18, ob_o11, lt_o11, lt_o12, ne_o11_o12, nsym ne_o11_o12, ielem_get h_x79, irow_get h_x79, h_x790, h_x791, ielem_get h_x72, irow_get h_x72, h_x720, h_x721, hg82]
                              exact hK _ _ ⟨s1, s2, s3, s7, s9, (by first | exact s11 | simp only [go_sem, s11, List.length_append, List.map_append]), (by first | exact s12 | simp only [go_sem, s12, List.length_append, List.map_append]), s13, s14, s15, s17, s18, (by simp only [go_sem, ob_o11, lt_o11, ob_o12, lt_o12, ne_o11_o12, nsym ne_o11_o12, hg82, List.length_append, List.map_append]), (by simp only [go_sem, lt_o11, lt_o12]), (by simp only [go_sem, ob_o11, lt_o11, ob_o12, lt_o12, ne_o11_o12, nsym ne_o11_o12, hg82, List.length_append, List.map_append]), (by simp only [go_sem, lt_o11, lt_o12]), (by omega)⟩
                            · simp only [hg82, Bool.not_true, Bool.not_false, eq_self, if_true, if_false, Bool.true_or, Bool.or_true, Bool.false_or, Bool.or_false, Bool.true_and, Bool.and_true, Bool.false_and, Bool.and_false, Bool.false_eq_true] at h_c81
                              obtain ⟨y80, h_y80, h_c81⟩ := bind_get h_c81
                              obtain rfl := Option.some.inj h_c81
                              simp only [go_sem, s7, s11, s14, s15, s18, ob_o11, lt_o11, lt_o12, ne_o11_o12, nsym ne_o11_o12, ielem_get h_x79, irow_get h_x79, h_x790, h_x791, ielem_get h_x72, irow_get h_x72, h_x720, h_x721, hg82]
                              refine icall_fn (k_l03_has y13.1 i_14 _ h_y80) ?_
                              simp only [go_sem, s7, s11, s14, s15, s18, ob_o11, lt_o11, lt_o12, ne_o11_o12, nsym ne_o11_o12, ielem_get h_x79, irow_get h_x79, h_x790, h_x791, ielem_get h_x72, irow_get h_x72, h_x720, h_x721, hg82]
                              exact hK _ _ ⟨s1, s2, s3, s7, s9, (by first | exact s11 | simp only [go_sem, s11, List.length_append, List.map_append]), (by first | exact s12 | simp only [go_sem, s12, List.length_append, List.map_append]), s13, s14, s15, s17, s18, (by simp only [go_sem, ob_o11, lt_o11, ob_o12, lt_o12, ne_o11_o12, nsym ne_o11_o12, hg82, List.length_append, List.map_append]), (by simp only [go_sem, lt_o11, lt_o12]), (by simp only [go_sem, ob_o11, lt_o11, ob_o12, lt_o12, ne_o11_o12, nsym ne_o11_o12, hg82, List.length_append, List.map_append]), (by simp only [go_sem, lt_o11, lt_o12]), (by omega)⟩
                          · rintro t h ⟨s1, s2, s3, s7, s9, s11, s12, s13, s14, s15, s17, s18, ob_o11, lt_o11, ob_o12, lt_o12, ne_o11_o12⟩
                            obtain ⟨x84, h_x84, hm2⟩ := bind_get hm2
                            have h_x840 := get_nn h_x84
                            have h_x841 := get_lt h_x84
                            refine cw_reg_postK1 (fun t h => t 1 = .fs 2 (List.map eTrial l) ∧ t 2 = I fewer ∧ t 3 = .fp [I c.Hazards, .fs 1 (List.map eI c.Switches), .fs 2 (List.map eWire c.Wires)] 0 ∧ t 7 = .fs 1 (List.map eI y13.1) ∧ t 9 = .fs 1 (List.map eI y15.1) ∧ t 11 = .rs i11 0 (List.length (List.set chosen_11_1 (Int.toNat x72) c81)) ∧ t 12 = .rs i12 0 (List.length (List.set others_12_1 (Int.toNat x72) (x84 || (decide ((band q64 1) = 1))))) ∧ t 13 = I count_13_1 ∧ t 14 = I i_14 ∧ t 15 = .fs 1 (List.map eI y60.1) ∧ t 17 = B (decide ((band q64 1) = 1)) ∧ t 18 = I k_18 ∧ h.ob i11 = some (1, List.map eB (List.set chosen_11_1 (Int.toNat x72) c81)) ∧ i11 < h.nx ∧ h.ob i12 = some (1, List.map eB (List.set others_12_1 (Int.toNat x72) (x84 || (decide ((band q64 1) = 1))))) ∧ i12 < h.nx ∧ ¬i11 = i12) (fun K hK => ?_) ?_
                            · simp only [go_sem, s12, s15, s17, s18, ob_o12, lt_o12, lt_o11, ne_o11_o12, nsym ne_o11_o12, ielem_get h_x84, irow_get h_x84, h_x840, h_x841, ielem_get h_x72, irow_get h_x72, h_x720, h_x721]
                              refine ibr_intro (fun hg85 => ?_) (fun hg85 => ?_)
                              · simp only [go_sem, s12, s15, s17, s18, ob_o12, lt_o12, lt_o11, ne_o11_o12, nsym ne_o11_o12, ielem_get h_x84, irow_get h_x84, h_x840, h_x841, ielem_get h_x72, irow_get h_x72, h_x720, h_x721, hg85]
                                exact hK _ _ ⟨s1, s2, s3, s7, s9, (by first | exact s11 | simp only [go_sem, s11, List.length_append, List.map_append]), (by first | exact s12 | simp only [go_sem, s12, List.length_append, List.map_append]), s13, s14, s15, s17, s18, (by simp only [go_sem, ob_o11, lt_o11, ob_o12, lt_o12, ne_o11_o12, nsym ne_o11_o12, hg85, List.length_append, List.map_append]), (by simp only [go_sem, lt_o11, lt_o12]), (by simp only [go_sem, ob_o11, lt_o11, ob_o12, lt_o12, ne_o11_o12, nsym ne_o11_o12, hg85, List.length_append, List.map_append]), (by simp only [go_sem, lt_o11, lt_o12]), (by omega)⟩
                              · simp only [go_sem, s12, s15, s17, s18, ob_o12, lt_o12, lt_o11, ne_o11_o12, nsym ne_o11_o12, ielem_get h_x84, irow_get h_x84, h_x840, h_x841, ielem_get h_x72, irow_get h_x72, h_x720, h_x721, hg85]
                                exact hK _ _ ⟨s1, s2, s3, s7, s9, (by first | exact s11 | simp only [go_sem, s11, List.length_append, List.map_append]), (by first | exact s12 | simp only [go_sem, s12, List.length_append, List.map_append]), s13, s14, s15, s17, s18, (by simp only [go_sem, ob_o11, lt_o11, ob_o12, lt_o12, ne_o11_o12, nsym ne_o11_o12, hg85, List.length_append, List.map_append]), (by simp only [go_sem, lt_o11, lt_o12]), (by simp only [go_sem, ob_o11, lt_o11, ob_o12, lt_o12, ne_o11_o12, nsym ne_o11_o12, hg85, List.length_append, List.map_append]), (by simp only [go_sem, lt_o11, lt_o12]), (by omega)⟩
                            · rintro t h ⟨s1, s2, s3, s7, s9, s11, s12, s13, s14, s15, s17, s18, ob_o11, lt_o11, ob_o12, lt_o12, ne_o11_o12⟩
                              simp only [qblock_normal, qseq_normal]
                              refine hK70 _ _ ?_
                              refine cw_reg_k fun K hK => ?_
                              simp only [go_sem, s18, lt_o11, lt_o12]
                              refine hK _ _ ?_
                              clear hK K
                              simp only [qblock_normal, qseq_normal]
                              obtain rfl := Option.some.inj hm2
                              refine ⟨_, rfl, ?_⟩
                              exact ⟨s1, s2, s3, s7, s9, (by first | exact s11 | simp only [go_sem, s11, List.length_append, List.map_append]), (by first | exact s12 | simp only [go_sem, s12, List.length_append, List.map_append]), s13, s14, s15, s17, (by first | rfl | exact s18 | simp only [go_sem, s18, List.length_append, List.map_append]), ob_o11, lt_o11, ob_o12, lt_o12, (by omega)⟩
                    · rw [if_f hc69] at hm2
                      simp only [cw_exit, qseq_exit, qblock_same, qblock_ne, qblock_normal, qseq_normal, Nat.reduceEqDiff, not_false_eq_true]
                      obtain rfl := Option.some.inj hm2
                      obtain rfl := hb67 _ rfl
                      try dsimp only at hm1
                      exact J58 chosen_11_1 others_12_1 count_13_1 _ _ s1 s2 s3 s7 s9 (by first | exact s11 | simp only [go_sem, s11, List.length_append, List.map_append]) (by first | exact s12 | simp only [go_sem, s12, List.length_append, List.map_append]) s13 s14 ob_o11 lt_o11 ob_o12 lt_o12 (by omega) hm1
                simp only [go_sem]
                refine ibr_intro (fun hc87 => ?_) (fun hc87 => ?_)
                · rw [if_t hc87] at hm1
                  refine cw_reg_k fun K hK => ?_
                  simp only [go_sem, s13, lt_o11, lt_o12]
                  refine hK _ _ ?_
                  clear hK K
                  simp only [qblock_normal, qseq_normal]
                  exact J66 (wr (count_13 + 1)) _ _ s1 s2 s3 s7 s9 (by first | exact s11 | simp only [go_sem, s11, List.length_append, List.map_append]) (by first | exact s12 | simp only [go_sem, s12, List.length_append, List.map_append]) (by first | rfl | exact s13 | simp only [go_sem, s13, List.length_append, List.map_append]) s14 (by first | rfl | simp only [go_sem, List.length_append, List.map_append]) (by first | rfl | simp only [go_sem, List.length_append, List.map_append]) ob_o11 lt_o11 ob_o12 lt_o12 (by omega) hm1
                · rw [if_f hc87] at hm1
                  simp only [cw_skip, qblock_normal, qseq_normal]
                  exact J66 count_13 _ _ s1 s2 s3 s7 s9 (by first | exact s11 | simp only [go_sem, s11, List.length_append, List.map_append]) (by first | exact s12 | simp only [go_sem, s12, List.length_append, List.map_append]) s13 s14 (by first | rfl | simp only [go_sem, List.length_append, List.map_append]) (by first | rfl | simp only [go_sem, List.length_append, List.map_append]) ob_o11 lt_o11 ob_o12 lt_o12 (by omega) hm1
            · rw [if_f hc56] at hm1
              simp only [cw_exit, qseq_exit, qblock_same, qblock_ne, qblock_normal, qseq_normal, Nat.reduceEqDiff, not_false_eq_true]
              obtain rfl := Option.some.inj hm1
              obtain rfl := hb54 _ rfl
              try dsimp only at hm0
              exact J24 chosen_11 others_12 count_13 i11 i12 _ _ s7 s9 (by first | exact s11 | simp only [go_sem, s11, List.length_append, List.map_append]) (by first | exact s12 | simp only [go_sem, s12, List.length_append, List.map_append]) s13 ob_o11 lt_o11 ob_o12 lt_o12 (by omega) hm0

end Go.Nw.DM

namespace Go.Nw.DM
open Go.Nw.Door
set_option linter.unusedSimpArgs false
set_option linter.unusedVariables false
variable {O : Orac}

theorem k_l03_Example (hf : Has O "newel/newellaw03.Example" x_l03_Example) : C_l03_Example O := by
  intro _
  generalize hm0 : l03_Example = r
  unfold l03_Example at hm0
  refine fn_cw hf rfl fz_nil (.tup _ (fz_cons (.agg _ (fz_cons (frz_v _) (fz_cons (frz_fs fun a _ => fz_eI a) (fz_cons (frz_fs fun a _ => fz_eWire a) fz_nil)))) (fz_cons (frz_fs fun a _ => fz_eTrial a) fz_nil))) ?_
  refine cw_start (fun t h => True) trivial fun t h _ => ?_
  simp only [x_l03_Example]
  refine cw_reg_seq fun K hK => ?_
  simp only [go_sem]
  refine hK _ _ ?_
  clear hK K
  refine cw_reg_seq fun K hK => ?_
  simp only [go_sem]
  refine hK _ _ ?_
  clear hK K
  refine cw_reg_seq fun K hK => ?_
  simp only [go_sem]
  refine hK _ _ ?_
  clear hK K
  simp only [cw_ret, qseq_ret, qblock_ret, retQ_ret]
  obtain rfl := hm0
  exact done_cell2 (id := h.nx) (m := 3) (cs := [I 2, .rs (nxs h.nx) 0 (4), .rs (nxs (nxs (nxs (nxs (nxs (nxs (nxs h.nx))))))) 0 5]) (u := .rs (nxs (nxs (nxs (nxs (nxs (nxs (nxs (nxs (nxs h.nx))))))))) 0 (4)) (by simp only [go_sem, List.length_append, List.map_append]) (by simp only [go_sem, List.length_append, List.map_append]) rfl (by simp only [go_sem, List.length_append, List.map_append]) (fz_agg (.cons (.refl _ (frz_v _)) (.cons (fz_rs (f := eI) (l := ([1, 1, 2, 2])) (by simp only [go_sem, List.length_append, List.map_append]) (by first | rfl | simp only [go_sem, List.length_append, List.map_append]) fz_eI ln_eI) (.cons (fz_lit (rows := [[I 2, .rs (nxs (nxs h.nx)) 0 (4)], [I 1, .rs (nxs (nxs (nxs h.nx))) 0 (1)], [I 1, .rs (nxs (nxs (nxs (nxs h.nx)))) 0 (1)], [I 1, .rs (nxs (nxs (nxs (nxs (nxs h.nx))))) 0 (1)], [I 1, .rs (nxs (nxs (nxs (nxs (nxs (nxs h.nx)))))) 0 (1)]]) (by simp only [go_sem]) rfl (.cons (.cons (.refl _ (frz_v _)) (.cons (fz_rs (f := eI) (l := ([1, 2, 3, 4])) (by simp only [go_sem, List.length_append, List.map_append]) (by first | rfl | simp only [go_sem, List.length_append, List.map_append]) fz_eI ln_eI) (.nil))) (.cons (.cons (.refl _ (frz_v _)) (.cons (fz_rs (f := eI) (l := ([0])) (by simp only [go_sem, List.length_append, List.map_append]) (by first | rfl | simp only [go_sem, List.length_append, List.map_append]) fz_eI ln_eI) (.nil))) (.cons (.cons (.refl _ (frz_v _)) (.cons (fz_rs (f := eI) (l := ([1])) (by simp only [go_sem, List.length_append, List.map_append]) (by first | rfl | simp only [go_sem, List.length_append, List.map_append]) fz_eI ln_eI) (.nil))) (.cons (.cons (.refl _ (frz_v _)) (.cons (fz_rs (f := eI) (l := ([2])) (by simp only [go_sem, List.length_append, List.map_append]) (by first | rfl | simp only [go_sem, List.length_append, List.map_append]) fz_eI ln_eI) (.nil))) (.cons (.cons (.refl _ (frz_v _)) (.cons (fz_rs (f := eI) (l := ([3])) (by simp only [go_sem, List.length_append, List.map_append]) (by first | rfl | simp only [go_sem, List.length_append, List.map_append]) fz_eI ln_eI) (.nil))) (.nil)))))) (by intro d hd; obtain ⟨x, _, rfl⟩ := List.mem_map.1 hd; exact ln_eWire x)) (.nil))))) (fz_rs (f := eTrial) (l := ([(Trial.mk 1 1), (Trial.mk 1 2), (Trial.mk 2 3), (Trial.mk 2 4)])) (by simp only [go_sem, List.length_append, List.map_append]) (by first | rfl | simp only [go_sem, List.length_append, List.map_append]) fz_eTrial ln_eTrial)

end Go.Nw.DM

namespace Go.Nw.DM
open Go.Nw.Door
set_option linter.unusedSimpArgs false
set_option linter.unusedVariables false
variable {O : Orac}

theorem k_l03_Far (hf : Has O "newel/newellaw03.Far" x_l03_Far) : C_l03_Far O := by
  intro c r hm0
  unfold l03_Far at hm0
  refine fn_cw hf rfl (fz_cons (.agg _ (fz_cons (frz_v _) (fz_cons (frz_fs fun a _ => fz_eI a) (fz_cons (frz_fs fun a _ => fz_eWire a) fz_nil)))) fz_nil) (frz_v _) ?_
  refine cw_start (fun t h => t 0 = .agg [I c.Hazards, .fs 1 (List.map eI c.Switches), .fs 2 (List.map eWire c.Wires)]) rfl fun t h s0 => ?_
  simp only [x_l03_Far]
  refine cw_reg_seq fun K hK => ?_
  simp only [go_sem, s0]
  refine hK _ _ ?_
  clear hK K
  refine cw_assoc ?_
  refine cw_reg_postK (fun t h => t 1 = .fp [I c.Hazards, .fs 1 (List.map eI c.Switches), .fs 2 (List.map eWire c.Wires)] 0 ∧ t 13 = B ((decide (20 < (List.length c.Switches : Int))) || (decide (40 < (List.length c.Wires : Int))))) (fun K hK => ?_) ?_
  · simp only [go_sem]
    refine ibr_intro (fun hg1 => ?_) (fun hg1 => ?_)
    · simp only [go_sem, hg1]
      exact hK _ _ ⟨(by first | rfl | simp only [go_sem, hg1, List.length_append, List.map_append]), (by first | rfl | simp only [go_sem, hg1, List.length_append, List.map_append])⟩
    · simp only [go_sem, hg1]
      exact hK _ _ ⟨(by first | rfl | simp only [go_sem, hg1, List.length_append, List.map_append]), (by first | rfl | simp only [go_sem, hg1, List.length_append, List.map_append])⟩
  · rintro t h ⟨s1, s13⟩
    refine cw_seq_k fun K2 hK2 => ?_
    simp only [go_sem, s13]
    refine ibr_intro (fun hc3 => ?_) (fun hc3 => ?_)
    · rw [if_t hc3] at hm0
      refine cw_reg_seq fun K hK => ?_
      simp only [go_sem]
      refine hK _ _ ?_
      clear hK K
      simp only [cw_ret, qseq_ret, qblock_ret, retQ_ret]
      obtain rfl := Option.some.inj hm0
      exact done_t (by simp only [go_sem, List.length_append, List.map_append]) (frz_v _)
    · rw [if_f hc3] at hm0
      simp only [cw_skip, qblock_normal, qseq_normal]
      refine hK2 _ _ ?_
      refine cw_assoc ?_
      refine cw_reg_seq fun K hK => ?_
      simp only [go_sem]
      refine hK _ _ ?_
      clear hK K
      refine cw_seq_k fun K4 hK4 => ?_
      have J5 : ∀ (t : Slots) (h : Heap), l03_Far_j5 = some r → K4 t h := by
        intro t h hm0
        refine hK4 _ _ ?_
        unfold l03_Far_j5 at hm0
        refine cw_reg_seq fun K hK => ?_
        simp only [go_sem]
        refine hK _ _ ?_
        clear hK K
        simp only [cw_ret, qseq_ret, qblock_ret, retQ_ret]
        obtain rfl := Option.some.inj hm0
        exact done_t (by simp only [go_sem, List.length_append, List.map_append]) (frz_v _)
      simp only [cw_block]
      obtain ⟨b6, hl6, hm0⟩ := bind_get hm0
      refine cw_loopM hl6 (fun | i_3, t, h => t 1 = .fp [I c.Hazards, .fs 1 (List.map eI c.Switches), .fs 2 (List.map eWire c.Wires)] 0 ∧ t 3 = I i_3) ?_ ?_
      · exact ⟨s1, (by first | rfl | simp only [go_sem, List.length_append, List.map_append])⟩
      · rintro i_3 o t h ⟨s1, s3⟩ hm1 hb6
        simp only [l03_Far_L8] at hm1
        rw [x_l03_Far_L8]
        refine cw_assoc ?_
        refine cw_reg_seq fun K hK => ?_
        simp only [go_sem, s1, s3]
        refine hK _ _ ?_
        clear hK K
        refine cw_seq_k fun K7 hK7 => ?_
        simp only [go_sem]
        refine ibr_intro (fun hc8 => ?_) (fun hc8 => ?_)
        · rw [if_t hc8] at hm1
          simp only [cw_skip, qblock_normal, qseq_normal]
          refine hK7 _ _ ?_
          refine cw_seq_k fun K9 hK9 => ?_
          simp only [cw_block]
          obtain ⟨x11, h_x11, hm1⟩ := bind_get hm1
          have h_x110 := get_nn h_x11
          have h_x111 := get_lt h_x11
          refine cw_reg_seq fun K hK => ?_
          simp only [go_sem, s1, s3, ielem_get h_x11, irow_get h_x11, h_x110, h_x111]
          refine hK _ _ ?_
          clear hK K
          simp only [go_sem]
          refine ibr_intro (fun hc12 => ?_) (fun hc12 => ?_)
          · rw [if_t hc12] at hm1
            refine cw_reg_seq fun K hK => ?_
            simp only [go_sem]
            refine hK _ _ ?_
            clear hK K
            simp only [cw_ret, qseq_ret, qblock_ret, retQ_ret]
            obtain rfl := Option.some.inj hm1
            obtain rfl := hb6 _ rfl
            try dsimp only at hm0
            obtain rfl := Option.some.inj hm0
            exact done_t (by simp only [go_sem, List.length_append, List.map_append]) (frz_v _)
          · rw [if_f hc12] at hm1
            simp only [cw_skip, qblock_normal, qseq_normal]
            refine hK9 _ _ ?_
            refine cw_reg_k fun K hK => ?_
            simp only [go_sem, s3]
            refine hK _ _ ?_
            clear hK K
            simp only [qblock_normal, qseq_normal]
            obtain rfl := Option.some.inj hm1
            refine ⟨_, rfl, ?_⟩
            exact ⟨s1, (by first | rfl | exact s3 | simp only [go_sem, s3, List.length_append, List.map_append])⟩
        · rw [if_f hc8] at hm1
          simp only [cw_exit, qseq_exit, qblock_same, qblock_ne, qblock_normal, qseq_normal, Nat.reduceEqDiff, not_false_eq_true]
          obtain rfl := Option.some.inj hm1
          obtain rfl := hb6 _ rfl
          try dsimp only at hm0
          exact J5  _ _  hm0

end Go.Nw.DM

namespace Go.Nw.DM
open Go.Nw.Door
set_option linter.unusedSimpArgs false
set_option linter.unusedVariables false
variable {O : Orac}

theorem k_l03_has (hf : Has O "newel/newellaw03.has" x_l03_has) : C_l03_has O := by
  intro l n r hm0
  unfold l03_has at hm0
  refine fn_cw hf rfl (fz_cons (frz_fs fun a _ => fz_eI a) (fz_cons (frz_v _) fz_nil)) (frz_v _) ?_
  refine cw_start (fun t h => t 0 = .fs 1 (List.map eI l) ∧ t 1 = I n) ⟨rfl, rfl⟩ fun t h ⟨s0, s1⟩ => ?_
  simp only [x_l03_has]
  refine cw_reg_seq fun K hK => ?_
  simp only [go_sem]
  refine hK _ _ ?_
  clear hK K
  refine cw_assoc ?_
  refine cw_reg_seq fun K hK => ?_
  simp only [go_sem]
  refine hK _ _ ?_
  clear hK K
  refine cw_seq_k fun K1 hK1 => ?_
  have J2 : ∀ (t : Slots) (h : Heap), l03_has_j2 = some r → K1 t h := by
    intro t h hm0
    refine hK1 _ _ ?_
    unfold l03_has_j2 at hm0
    refine cw_reg_seq fun K hK => ?_
    simp only [go_sem]
    refine hK _ _ ?_
    clear hK K
    simp only [cw_ret, qseq_ret, qblock_ret, retQ_ret]
    obtain rfl := Option.some.inj hm0
    exact done_t (by simp only [go_sem, List.length_append, List.map_append]) (frz_v _)
  simp only [cw_block]
  obtain ⟨b3, hl3, hm0⟩ := bind_get hm0
  refine cw_loopM hl3 (fun | i_5, t, h => t 0 = .fs 1 (List.map eI l) ∧ t 1 = I n ∧ t 5 = I i_5) ?_ ?_
  · exact ⟨s0, s1, (by first | rfl | simp only [go_sem, List.length_append, List.map_append])⟩
  · rintro i_5 o t h ⟨s0, s1, s5⟩ hm1 hb3
    simp only [l03_has_L6] at hm1
    rw [x_l03_has_L6]
    refine cw_assoc ?_
    refine cw_reg_seq fun K hK => ?_
    simp only [go_sem, s0, s5]
    refine hK _ _ ?_
    clear hK K
    refine cw_seq_k fun K4 hK4 => ?_
    simp only [go_sem]
    refine ibr_intro (fun hc5 => ?_) (fun hc5 => ?_)
    · rw [if_t hc5] at hm1
      simp only [cw_skip, qblock_normal, qseq_normal]
      refine hK4 _ _ ?_
      refine cw_seq_k fun K6 hK6 => ?_
      simp only [cw_block]
      obtain ⟨x8, h_x8, hm1⟩ := bind_get hm1
      have h_x80 := get_nn h_x8
      have h_x81 := get_lt h_x8
      refine cw_reg_seq fun K hK => ?_
      simp only [go_sem, s0, s1, s5, ielem_get h_x8, irow_get h_x8, h_x80, h_x81]
      refine hK _ _ ?_
      clear hK K
      simp only [go_sem]
      refine ibr_intro (fun hc9 => ?_) (fun hc9 => ?_)
      · rw [if_t hc9] at hm1
        refine cw_reg_seq fun K hK => ?_
        simp only [go_sem]
        refine hK _ _ ?_
        clear hK K
        simp only [cw_ret, qseq_ret, qblock_ret, retQ_ret]
        obtain rfl := Option.some.inj hm1
        obtain rfl := hb3 _ rfl
        try dsimp only at hm0
        obtain rfl := Option.some.inj hm0
        exact done_t (by simp only [go_sem, List.length_append, List.map_append]) (frz_v _)
      · rw [if_f hc9] at hm1
        simp only [cw_skip, qblock_normal, qseq_normal]
        refine hK6 _ _ ?_
        refine cw_reg_k fun K hK => ?_
        simp only [go_sem, s5]
        refine hK _ _ ?_
        clear hK K
        simp only [qblock_normal, qseq_normal]
        obtain rfl := Option.some.inj hm1
        refine ⟨_, rfl, ?_⟩
        exact ⟨s0, s1, (by first | rfl | exact s5 | simp only [go_sem, s5, List.length_append, List.map_append])⟩
    · rw [if_f hc5] at hm1
      simp only [cw_exit, qseq_exit, qblock_same, qblock_ne, qblock_normal, qseq_normal, Nat.reduceEqDiff, not_false_eq_true]
      obtain rfl := Option.some.inj hm1
      obtain rfl := hb3 _ rfl
      try dsimp only at hm0
      exact J2  _ _  hm0

end Go.Nw.DM

namespace Go.Nw.DM
open Go.Nw.Door
set_option linter.unusedSimpArgs false
set_option linter.unusedVariables false
variable {O : Orac}

theorem k_l03_works (hf : Has O "newel/newellaw03.works" x_l03_works) (k_l03_Example : C_l03_Example O) (k_circuit_Pairs : C_circuit_Pairs O) (k_circuit_CheckRota : C_circuit_CheckRota O) : C_l03_works O := by
  intro r hm0
  unfold l03_works at hm0
  refine fn_cw hf rfl fz_nil (frz_v _) ?_
  refine cw_start (fun t h => True) trivial fun t h _ => ?_
  simp only [x_l03_works]
  refine cw_reg_seq fun K hK => ?_
  simp only [go_sem]
  refine hK _ _ ?_
  clear hK K
  refine cw_reg_seq fun K hK => ?_
  simp only [go_sem]
  refine icall_fn (k_l03_Example ()) ?_
  simp only [go_sem]
  refine hK _ _ ?_
  clear hK K
  obtain ⟨y2, h_y2, hm0⟩ := bind_get hm0
  refine cw_reg_seq fun K hK => ?_
  simp only [go_sem]
  refine icall_fn (k_circuit_Pairs l03_Example.1 _ h_y2) ?_
  simp only [go_sem]
  refine hK _ _ ?_
  clear hK K
  obtain ⟨y4, h_y4, hm0⟩ := bind_get hm0
  refine cw_reg_seq fun K hK => ?_
  simp only [go_sem]
  refine icall_fz ?_ (k_circuit_CheckRota l03_Example.1 l03_Example.2 (Rota.mk ([[0], [1], [2], [3]]) 4) _ h_y4) (.tup _ (ow_cons (.v _) (ow_cons (.v _) (ow_cons (.v _) (ow_cons (.v _) ow_nil))))) ?_
  · exact .cons (.refl _ (.agg _ (fz_cons (frz_v _) (fz_cons (frz_fs fun a _ => fz_eI a) (fz_cons (frz_fs fun a _ => fz_eWire a) fz_nil))))) (.cons (.refl _ (frz_fs fun a _ => fz_eTrial a)) (.cons (fz_agg (.cons (fz_lit (rows := [[.rs (nxs h.nx) 0 (1)], [.rs (nxs (nxs h.nx)) 0 (1)], [.rs (nxs (nxs (nxs h.nx))) 0 (1)], [.rs (nxs (nxs (nxs (nxs h.nx)))) 0 (1)]]) (by simp only [go_sem]) rfl (.cons (.cons (fz_rs (f := eI) (l := ([0])) (by simp only [go_sem, List.length_append, List.map_append]) (by first | rfl | simp only [go_sem, List.length_append, List.map_append]) fz_eI ln_eI) (.nil)) (.cons (.cons (fz_rs (f := eI) (l := ([1])) (by simp only [go_sem, List.length_append, List.map_append]) (by first | rfl | simp only [go_sem, List.length_append, List.map_append]) fz_eI ln_eI) (.nil)) (.cons (.cons (fz_rs (f := eI) (l := ([2])) (by simp only [go_sem, List.length_append, List.map_append]) (by first | rfl | simp only [go_sem, List.length_append, List.map_append]) fz_eI ln_eI) (.nil)) (.cons (.cons (fz_rs (f := eI) (l := ([3])) (by simp only [go_sem, List.length_append, List.map_append]) (by first | rfl | simp only [go_sem, List.length_append, List.map_append]) fz_eI ln_eI) (.nil)) (.nil))))) (by intro d hd; obtain ⟨x, _, rfl⟩ := List.mem_map.1 hd; exact ln_eL_I x)) (.cons (.refl _ (frz_v _)) (.nil)))) (.nil)))
  simp only [go_sem]
  refine hK _ _ ?_
  clear hK K
  obtain ⟨c10, h_c10, hm0⟩ := bind_get hm0
  obtain ⟨c12, h_c12, hm0⟩ := bind_get hm0
  refine cw_reg_postK (fun t h => t 0 = B c12) (fun K hK => ?_) ?_
  · simp only [go_sem]
    refine ibr_intro (fun hg13 => ?_) (fun hg13 => ?_)
    · simp only [go_sem, hg13]
      refine ibr_intro (fun hg14 => ?_) (fun hg14 => ?_)
      · simp only [go_sem, hg13, hg14]
        refine ibr_intro (fun hg15 => ?_) (fun hg15 => ?_)
        · simp only [go_sem, hg13, hg14, hg15]
          refine ibr_intro (fun hg16 => ?_) (fun hg16 => ?_)
          · simp only [hg13, hg14, hg15, hg16, Bool.not_true, Bool.not_false, eq_self, if_true, if_false, Bool.true_or, Bool.or_true, Bool.false_or, Bool.or_false, Bool.true_and, Bool.and_true, Bool.false_and, Bool.and_false, Bool.false_eq_true] at h_c10
            obtain ⟨x9, h_x9, h_c10⟩ := bind_get h_c10
            have h_x90 := get_nn h_x9
            have h_x91 := get_lt h_x9
            obtain rfl := Option.some.inj h_c10
            simp only [go_sem, ielem_get h_x9, irow_get h_x9, h_x90, h_x91, hg13, hg14, hg15, hg16]
            refine ibr_intro (fun hg17 => ?_) (fun hg17 => ?_)
            · simp only [hg13, hg14, hg15, hg16, hg17, Bool.not_true, Bool.not_false, eq_self, if_true, if_false, Bool.true_or, Bool.or_true, Bool.false_or, Bool.or_false, Bool.true_and, Bool.and_true, Bool.false_and, Bool.and_false, Bool.false_eq_true] at h_c12
              obtain ⟨x11, h_x11, h_c12⟩ := bind_get h_c12
              have h_x110 := get_nn h_x11
              have h_x111 := get_lt h_x11
              obtain rfl := Option.some.inj h_c12
              simp only [go_sem, ielem_get h_x9, irow_get h_x9, h_x90, h_x91, ielem_get h_x11, irow_get h_x11, h_x110, h_x111, hg13, hg14, hg15, hg16, hg17]
              exact hK _ _ (by first | rfl | simp only [go_sem, hg13, hg14, hg15, hg16, hg17, List.length_append, List.map_append])
            · simp only [hg13, hg14, hg15, hg16, hg17, Bool.not_true, Bool.not_false, eq_self, if_true, if_false, Bool.true_or, Bool.or_true, Bool.false_or, Bool.or_false, Bool.true_and, Bool.and_true, Bool.false_and, Bool.and_false, Bool.false_eq_true] at h_c12
              obtain rfl := Option.some.inj h_c12
              simp only [go_sem, ielem_get h_x9, irow_get h_x9, h_x90, h_x91, hg13, hg14, hg15, hg16, hg17]
              exact hK _ _ (by first | rfl | simp only [go_sem, hg13, hg14, hg15, hg16, hg17, List.length_append, List.map_append])
          · simp only [hg13, hg14, hg15, hg16, Bool.not_true, Bool.not_false, eq_self, if_true, if_false, Bool.true_or, Bool.or_true, Bool.false_or, Bool.or_false, Bool.true_and, Bool.and_true, Bool.false_and, Bool.and_false, Bool.false_eq_true] at h_c10
            obtain rfl := Option.some.inj h_c10
            simp only [hg13, hg14, hg15, hg16, Bool.not_true, Bool.not_false, eq_self, if_true, if_false, Bool.true_or, Bool.or_true, Bool.false_or, Bool.or_false, Bool.true_and, Bool.and_true, Bool.false_and, Bool.and_false, Bool.false_eq_true] at h_c12
            obtain rfl := Option.some.inj h_c12
            simp only [go_sem, hg13, hg14, hg15, hg16]
            exact hK _ _ (by first | rfl | simp only [go_sem, hg13, hg14, hg15, hg16, List.length_append, List.map_append])
        · simp only [hg13, hg14, hg15, Bool.not_true, Bool.not_false, eq_self, if_true, if_false, Bool.true_or, Bool.or_true, Bool.false_or, Bool.or_false, Bool.true_and, Bool.and_true, Bool.false_and, Bool.and_false, Bool.false_eq_true] at h_c10
          obtain rfl := Option.some.inj h_c10
          simp only [hg13, hg14, hg15, Bool.not_true, Bool.not_false, eq_self, if_true, if_false, Bool.true_or, Bool.or_true, Bool.false_or, Bool.or_false, Bool.true_and, Bool.and_true, Bool.false_and, Bool.and_false, Bool.false_eq_true] at h_c12
          obtain rfl := Option.some.inj h_c12
          simp only [go_sem, hg13, hg14, hg15]
          exact hK _ _ (by first | rfl | simp only [go_sem, hg13, hg14, hg15, List.length_append, List.map_append])
      · simp only [hg13, hg14, Bool.not_true, Bool.not_false, eq_self, if_true, if_false, Bool.true_or, Bool.or_true, Bool.false_or, Bool.or_false, Bool.true_and, Bool.and_true, Bool.false_and, Bool.and_false, Bool.false_eq_true] at h_c10
        obtain rfl := Option.some.inj h_c10
        simp only [hg13, hg14, Bool.not_true, Bool.not_false, eq_self, if_true, if_false, Bool.true_or, Bool.or_true, Bool.false_or, Bool.or_false, Bool.true_and, Bool.and_true, Bool.false_and, Bool.and_false, Bool.false_eq_true] at h_c12
        obtain rfl := Option.some.inj h_c12
        simp only [go_sem, hg13, hg14]
        exact hK _ _ (by first | rfl | simp only [go_sem, hg13, hg14, List.length_append, List.map_append])
    · simp only [hg13, Bool.not_true, Bool.not_false, eq_self, if_true, if_false, Bool.true_or, Bool.or_true, Bool.false_or, Bool.or_false, Bool.true_and, Bool.and_true, Bool.false_and, Bool.and_false, Bool.false_eq_true] at h_c10
      obtain rfl := Option.some.inj h_c10
      simp only [hg13, Bool.not_true, Bool.not_false, eq_self, if_true, if_false, Bool.true_or, Bool.or_true, Bool.false_or, Bool.or_false, Bool.true_and, Bool.and_true, Bool.false_and, Bool.and_false, Bool.false_eq_true] at h_c12
      obtain rfl := Option.some.inj h_c12
      simp only [go_sem, hg13]
      exact hK _ _ (by first | rfl | simp only [go_sem, hg13, List.length_append, List.map_append])
  · rintro t h s0
    simp only [cw_ret, qseq_ret, qblock_ret, retQ_ret]
    obtain rfl := Option.some.inj hm0
    exact done_t (by simp only [go_sem, s0, List.length_append, List.map_append]) (frz_v _)

end Go.Nw.DM

namespace Go.Nw.DM
open Go.Nw.Door
set_option linter.unusedSimpArgs false
set_option linter.unusedVariables false
variable {O : Orac}

theorem k_math_bits_TrailingZeros (hf : Has O "math/bits.TrailingZeros" x_math_bits_TrailingZeros) (k_math_bits_TrailingZeros64 : C_math_bits_TrailingZeros64 O) : C_math_bits_TrailingZeros O := by
  intro x r hm0
  unfold math_bits_TrailingZeros at hm0
  refine fn_cw hf rfl (fz_cons (frz_v _) fz_nil) (frz_v _) ?_
  refine cw_start (fun t h => t 0 = .v (.int .u64 x)) rfl fun t h s0 => ?_
  simp only [x_math_bits_TrailingZeros]
  refine cw_reg_seq fun K hK => ?_
  simp only [go_sem]
  refine hK _ _ ?_
  clear hK K
  refine cw_seq_k fun K1 hK1 => ?_
  simp only [iw_cond, evT_c, evT_t, icond_b, ibr_true, ibr_false, upd_same, upd_ne, Nat.reduceEqDiff, not_false_eq_true]
  simp only [cw_skip, qblock_normal, qseq_normal]
  refine hK1 _ _ ?_
  obtain ⟨y3, h_y3, hm0⟩ := bind_get hm0
  refine cw_reg_seq fun K hK => ?_
  simp only [go_sem, s0]
  refine icall_fn (k_math_bits_TrailingZeros64 x _ h_y3) ?_
  simp only [go_sem, s0]
  refine hK _ _ ?_
  clear hK K
  simp only [cw_ret, qseq_ret, qblock_ret, retQ_ret]
  obtain rfl := Option.some.inj hm0
  exact done_t (by simp only [go_sem, List.length_append, List.map_append]) (frz_v _)

end Go.Nw.DM

namespace Go.Nw.DM
open Go.Nw.Door
set_option linter.unusedSimpArgs false
set_option linter.unusedVariables false
variable {O : Orac}

theorem k_math_bits_TrailingZeros64 (hf : Has O "math/bits.TrailingZeros64" x_math_bits_TrailingZeros64) : C_math_bits_TrailingZeros64 O := by
  intro x r hm0
  unfold math_bits_TrailingZeros64 at hm0
  refine fn_cw hf rfl (fz_cons (frz_v _) fz_nil) (frz_v _) ?_
  refine cw_start (fun t h => t 0 = .v (.int .u64 x)) rfl fun t h s0 => ?_
  simp only [x_math_bits_TrailingZeros64]
  refine cw_reg_seq fun K hK => ?_
  simp only [go_sem]
  refine hK _ _ ?_
  clear hK K
  refine cw_assoc ?_
  refine cw_reg_seq fun K hK => ?_
  simp only [go_sem, s0]
  refine hK _ _ ?_
  clear hK K
  refine cw_seq_k fun K1 hK1 => ?_
  simp only [go_sem]
  refine ibr_intro (fun hc2 => ?_) (fun hc2 => ?_)
  · rw [if_t hc2] at hm0
    refine cw_reg_seq fun K hK => ?_
    simp only [go_sem]
    refine hK _ _ ?_
    clear hK K
    simp only [cw_ret, qseq_ret, qblock_ret, retQ_ret]
    obtain rfl := Option.some.inj hm0
    exact done_t (by simp only [go_sem, List.length_append, List.map_append]) (frz_v _)
  · rw [if_f hc2] at hm0
    simp only [cw_skip, qblock_normal, qseq_normal]
    refine hK1 _ _ ?_
    obtain ⟨q5, h_q5, hm0⟩ := bind_get hm0
    obtain ⟨x6, h_x6, hm0⟩ := bind_get hm0
    refine cw_reg_seq fun K hK => ?_
    simp only [go_sem, s0, ibin_shr h_q5, iixP_g (kd := .u8) (n := 64) h_x6 gt_1_eq rfl, iget_g (kd := .u8) h_x6 gt_1_eq]
    refine hK _ _ ?_
    clear hK K
    simp only [cw_ret, qseq_ret, qblock_ret, retQ_ret]
    obtain rfl := Option.some.inj hm0
    exact done_t (by simp only [go_sem, List.length_append, List.map_append]) (frz_v _)

end Go.Nw.DM

namespace Go.Nw.DM
open Go.Nw.Door
set_option linter.unusedSimpArgs false
set_option linter.unusedVariables false
variable {O : Orac}

theorem k_r03_CheckTrials (hf : Has O "newel/newelref03.CheckTrials" x_r03_CheckTrials) (k_r03_Check : C_r03_Check O) (k_r03_Hazards : C_r03_Hazards O) (k_r03_within : C_r03_within O) : C_r03_CheckTrials O := by
  intro c l r hm0
  unfold r03_CheckTrials at hm0
  refine fn_cw hf rfl (fz_cons (.agg _ (fz_cons (frz_v _) (fz_cons (frz_fs fun a _ => fz_eI a) (fz_cons (frz_fs fun a _ => fz_eWire a) fz_nil)))) (fz_cons (frz_fs fun a _ => fz_eTrial a) fz_nil)) (frz_v _) ?_
  refine cw_start (fun t h => t 0 = .agg [I c.Hazards, .fs 1 (List.map eI c.Switches), .fs 2 (List.map eWire c.Wires)] ∧ t 1 = .fs 2 (List.map eTrial l)) ⟨rfl, rfl⟩ fun t h ⟨s0, s1⟩ => ?_
  simp only [x_r03_CheckTrials]
  refine cw_reg_seq fun K hK => ?_
  simp only [go_sem, s0]
  refine hK _ _ ?_
  clear hK K
  refine cw_assoc ?_
  obtain ⟨y2, h_y2, hm0⟩ := bind_get hm0
  refine cw_reg_seq fun K hK => ?_
  simp only [go_sem]
  refine icall_fn (k_r03_Check c _ h_y2) ?_
  simp only [go_sem]
  refine hK _ _ ?_
  clear hK K
  refine cw_seq_k fun K3 hK3 => ?_
  simp only [go_sem]
  refine ibr_intro (fun hc4 => ?_) (fun hc4 => ?_)
  · rw [if_t hc4] at hm0
    refine cw_reg_seq fun K hK => ?_
    simp only [go_sem]
    refine hK _ _ ?_
    clear hK K
    simp only [cw_ret, qseq_ret, qblock_ret, retQ_ret]
    obtain rfl := Option.some.inj hm0
    exact done_t (by simp only [go_sem, List.length_append, List.map_append]) (frz_v _)
  · rw [if_f hc4] at hm0
    simp only [cw_skip, qblock_normal, qseq_normal]
    refine hK3 _ _ ?_
    refine cw_assoc ?_
    refine cw_reg_seq fun K hK => ?_
    simp only [go_sem, s1]
    refine hK _ _ ?_
    clear hK K
    refine cw_seq_k fun K5 hK5 => ?_
    simp only [go_sem]
    refine ibr_intro (fun hc6 => ?_) (fun hc6 => ?_)
    · rw [if_t hc6] at hm0
      refine cw_reg_seq fun K hK => ?_
      simp only [go_sem]
      refine hK _ _ ?_
      clear hK K
      simp only [cw_ret, qseq_ret, qblock_ret, retQ_ret]
      obtain rfl := Option.some.inj hm0
      exact done_t (by simp only [go_sem, List.length_append, List.map_append]) (frz_v _)
    · rw [if_f hc6] at hm0
      simp only [cw_skip, qblock_normal, qseq_normal]
      refine hK5 _ _ ?_
      refine cw_assoc ?_
      refine cw_reg_seq fun K hK => ?_
      simp only [go_sem]
      refine hK _ _ ?_
      clear hK K
      refine cw_seq_k fun K7 hK7 => ?_
      have J8 : ∀ (t : Slots) (h : Heap), r03_CheckTrials_j8 = some r → K7 t h := by
        intro t h hm0
        refine hK7 _ _ ?_
        unfold r03_CheckTrials_j8 at hm0
        refine cw_reg_seq fun K hK => ?_
        simp only [go_sem]
        refine hK _ _ ?_
        clear hK K
        simp only [cw_ret, qseq_ret, qblock_ret, retQ_ret]
        obtain rfl := Option.some.inj hm0
        exact done_t (by simp only [go_sem, List.length_append, List.map_append]) (frz_v _)
      simp only [cw_block]
      obtain ⟨b9, hl9, hm0⟩ := bind_get hm0
      refine cw_loopM hl9 (fun | i_5, t, h => t 1 = .fs 2 (List.map eTrial l) ∧ t 2 = .fp [I c.Hazards, .fs 1 (List.map eI c.Switches), .fs 2 (List.map eWire c.Wires)] 0 ∧ t 5 = I i_5) ?_ ?_
      · exact ⟨s1, (by first | rfl | simp only [go_sem, List.length_append, List.map_append]), (by first | rfl | simp only [go_sem, List.length_append, List.map_append])⟩
      · rintro i_5 o t h ⟨s1, s2, s5⟩ hm1 hb9
        simp only [r03_CheckTrials_L10] at hm1
        rw [x_r03_CheckTrials_L10]
        refine cw_assoc ?_
        refine cw_reg_seq fun K hK => ?_
        simp only [go_sem, s1, s5]
        refine hK _ _ ?_
        clear hK K
        refine cw_seq_k fun K10 hK10 => ?_
        simp only [go_sem]
        refine ibr_intro (fun hc11 => ?_) (fun hc11 => ?_)
        · rw [if_t hc11] at hm1
          simp only [cw_skip, qblock_normal, qseq_normal]
          refine hK10 _ _ ?_
          refine cw_seq_k fun K12 hK12 => ?_
          simp only [cw_block]
          obtain ⟨x15, h_x15, hm1⟩ := bind_get hm1
          have h_x150 := get_nn h_x15
          have h_x151 := get_lt h_x15
          obtain ⟨y16, h_y16, hm1⟩ := bind_get hm1
          refine cw_reg_postK (fun t h => t 1 = .fs 2 (List.map eTrial l) ∧ t 2 = .fp [I c.Hazards, .fs 1 (List.map eI c.Switches), .fs 2 (List.map eWire c.Wires)] 0 ∧ t 5 = I i_5 ∧ t 38 = B ((!y16) || (!(r03_within x15.Wire 0 (wr ((List.length c.Wires : Int) - 1)))))) (fun K hK => ?_) ?_
          · simp only [go_sem, s1, s2, s5, ielem_get h_x15, irow_get h_x15, h_x150, h_x151]
            refine icall_fn (k_r03_Hazards c x15.Hazards _ h_y16) ?_
            simp only [go_sem, s1, s2, s5, ielem_get h_x15, irow_get h_x15, h_x150, h_x151]
            refine ibr_intro (fun hg17 => ?_) (fun hg17 => ?_)
            · simp only [go_sem, s1, s2, s5, ielem_get h_x15, irow_get h_x15, h_x150, h_x151, hg17]
              exact hK _ _ ⟨s1, s2, s5, (by first | rfl | simp only [go_sem, hg17, List.length_append, List.map_append])⟩
            · simp only [go_sem, s1, s2, s5, ielem_get h_x15, irow_get h_x15, h_x150, h_x151, hg17]
              refine icall_fn (k_r03_within x15.Wire 0 (wr ((List.length c.Wires : Int) - 1))) ?_
              simp only [go_sem, s1, s2, s5, ielem_get h_x15, irow_get h_x15, h_x150, h_x151, hg17]
              exact hK _ _ ⟨s1, s2, s5, (by first | rfl | simp only [go_sem, hg17, List.length_append, List.map_append])⟩
          · rintro t h ⟨s1, s2, s5, s38⟩
            simp only [go_sem, s38]
            refine ibr_intro (fun hc18 => ?_) (fun hc18 => ?_)
            · rw [if_t hc18] at hm1
              refine cw_reg_seq fun K hK => ?_
              simp only [go_sem]
              refine hK _ _ ?_
              clear hK K
              simp only [cw_ret, qseq_ret, qblock_ret, retQ_ret]
              obtain rfl := Option.some.inj hm1
              obtain rfl := hb9 _ rfl
              try dsimp only at hm0
              obtain rfl := Option.some.inj hm0
              exact done_t (by simp only [go_sem, List.length_append, List.map_append]) (frz_v _)
            · rw [if_f hc18] at hm1
              simp only [cw_skip, qblock_normal, qseq_normal]
              refine hK12 _ _ ?_
              refine cw_reg_k fun K hK => ?_
              simp only [go_sem, s5]
              refine hK _ _ ?_
              clear hK K
              simp only [qblock_normal, qseq_normal]
              obtain rfl := Option.some.inj hm1
              refine ⟨_, rfl, ?_⟩
              exact ⟨s1, s2, (by first | rfl | exact s5 | simp only [go_sem, s5, List.length_append, List.map_append])⟩
        · rw [if_f hc11] at hm1
          simp only [cw_exit, qseq_exit, qblock_same, qblock_ne, qblock_normal, qseq_normal, Nat.reduceEqDiff, not_false_eq_true]
          obtain rfl := Option.some.inj hm1
          obtain rfl := hb9 _ rfl
          try dsimp only at hm0
          exact J8  _ _  hm0

end Go.Nw.DM

namespace Go.Nw.DM
open Go.Nw.Door
set_option linter.unusedSimpArgs false
set_option linter.unusedVariables false
variable {O : Orac}

theorem k_r03_Hazards (hf : Has O "newel/newelref03.Hazards" x_r03_Hazards) (k_r03_within : C_r03_within O) : C_r03_Hazards O := by
  intro c n r hm0
  unfold r03_Hazards at hm0
  refine fn_cw hf rfl (fz_cons (.agg _ (fz_cons (frz_v _) (fz_cons (frz_fs fun a _ => fz_eI a) (fz_cons (frz_fs fun a _ => fz_eWire a) fz_nil)))) (fz_cons (frz_v _) fz_nil)) (frz_v _) ?_
  refine cw_start (fun t h => t 0 = .agg [I c.Hazards, .fs 1 (List.map eI c.Switches), .fs 2 (List.map eWire c.Wires)] ∧ t 1 = I n) ⟨rfl, rfl⟩ fun t h ⟨s0, s1⟩ => ?_
  simp only [x_r03_Hazards]
  refine cw_reg_seq fun K hK => ?_
  simp only [go_sem, s0]
  refine hK _ _ ?_
  clear hK K
  obtain ⟨q2, h_q2, hm0⟩ := bind_get hm0
  refine cw_reg_seq fun K hK => ?_
  simp only [go_sem, s1, ibin_shl h_q2]
  refine icall_fn (k_r03_within n 0 (wr (q2 - 1))) ?_
  simp only [go_sem, s1, ibin_shl h_q2]
  refine hK _ _ ?_
  clear hK K
  simp only [cw_ret, qseq_ret, qblock_ret, retQ_ret]
  obtain rfl := Option.some.inj hm0
  exact done_t (by simp only [go_sem, List.length_append, List.map_append]) (frz_v _)

end Go.Nw.DM

namespace Go.Nw.DM
open Go.Nw.Door
set_option linter.unusedSimpArgs false
set_option linter.unusedVariables false
variable {O : Orac}

theorem k_r03_within (hf : Has O "newel/newelref03.within" x_r03_within) : C_r03_within O := by
  intro n low high
  generalize hm0 : r03_within n low high = r
  unfold r03_within at hm0
  refine fn_cw hf rfl (fz_cons (frz_v _) (fz_cons (frz_v _) (fz_cons (frz_v _) fz_nil))) (frz_v _) ?_
  refine cw_start (fun t h => t 0 = I n ∧ t 1 = I low ∧ t 2 = I high) ⟨rfl, rfl, rfl⟩ fun t h ⟨s0, s1, s2⟩ => ?_
  simp only [x_r03_within]
  refine cw_reg_seq fun K hK => ?_
  simp only [go_sem]
  refine hK _ _ ?_
  clear hK K
  refine cw_reg_postK (fun t h => t 6 = B ((decide (low ≤ n)) && (decide (n ≤ high)))) (fun K hK => ?_) ?_
  · simp only [go_sem, s0, s1, s2]
    refine ibr_intro (fun hg1 => ?_) (fun hg1 => ?_)
    · simp only [go_sem, s0, s1, s2, hg1]
      exact hK _ _ (by first | rfl | simp only [go_sem, hg1, List.length_append, List.map_append])
    · simp only [go_sem, s0, s1, s2, hg1]
      exact hK _ _ (by first | rfl | simp only [go_sem, hg1, List.length_append, List.map_append])
  · rintro t h s6
    simp only [cw_ret, qseq_ret, qblock_ret, retQ_ret]
    obtain rfl := hm0
    exact done_t (by simp only [go_sem, s6, List.length_append, List.map_append]) (frz_v _)

end Go.Nw.DM

namespace Go.Nw.DM
open Go.Nw.Door
set_option linter.unusedSimpArgs false
set_option linter.unusedVariables false
variable {O : Orac}

theorem k_slices_Compare___int_int_ (hf : Has O "slices.Compare[[]int,int]" x_slices_Compare___int_int_) (k_cmp_Compare_int_ : C_cmp_Compare_int_ O) : C_slices_Compare___int_int_ O := by
  intro s1_ s2_ r hm0
  unfold slices_Compare___int_int_ at hm0
  refine fn_cw hf rfl (fz_cons (frz_fs fun a _ => fz_eI a) (fz_cons (frz_fs fun a _ => fz_eI a) fz_nil)) (frz_v _) ?_
  refine cw_start (fun t h => t 0 = .fs 1 (List.map eI s1_) ∧ t 1 = .fs 1 (List.map eI s2_)) ⟨rfl, rfl⟩ fun t h ⟨s0, s1⟩ => ?_
  simp only [x_slices_Compare___int_int_]
  refine cw_reg_seq fun K hK => ?_
  simp only [go_sem]
  refine hK _ _ ?_
  clear hK K
  refine cw_assoc ?_
  refine cw_reg_seq fun K hK => ?_
  simp only [go_sem, s0]
  refine hK _ _ ?_
  clear hK K
  refine cw_seq_k fun K1 hK1 => ?_
  have J2 : ∀ (t : Slots) (h : Heap), t 0 = .fs 1 (List.map eI s1_) → t 1 = .fs 1 (List.map eI s2_) → slices_Compare___int_int__j2 s1_ s2_ = some r → K1 t h := by
    intro t h s0 s1 hm0
    refine hK1 _ _ ?_
    unfold slices_Compare___int_int__j2 at hm0
    refine cw_assoc ?_
    refine cw_reg_seq fun K hK => ?_
    simp only [go_sem, s0, s1]
    refine hK _ _ ?_
    clear hK K
    refine cw_seq_k fun K3 hK3 => ?_
    simp only [go_sem]
    refine ibr_intro (fun hc4 => ?_) (fun hc4 => ?_)
    · rw [if_t hc4] at hm0
      refine cw_reg_seq fun K hK => ?_
      simp only [go_sem]
      refine hK _ _ ?_
      clear hK K
      simp only [cw_ret, qseq_ret, qblock_ret, retQ_ret]
      obtain rfl := Option.some.inj hm0
      exact done_t (by simp only [go_sem, List.length_append, List.map_append]) (frz_v _)
    · rw [if_f hc4] at hm0
      simp only [cw_skip, qblock_normal, qseq_normal]
      refine hK3 _ _ ?_
      refine cw_reg_seq fun K hK => ?_
      simp only [go_sem]
      refine hK _ _ ?_
      clear hK K
      simp only [cw_ret, qseq_ret, qblock_ret, retQ_ret]
      obtain rfl := Option.some.inj hm0
      exact done_t (by simp only [go_sem, List.length_append, List.map_append]) (frz_v _)
  simp only [cw_block]
  obtain ⟨b5, hl5, hm0⟩ := bind_get hm0
  refine cw_loopM hl5 (fun | x_11, t, h => t 0 = .fs 1 (List.map eI s1_) ∧ t 1 = .fs 1 (List.map eI s2_) ∧ t 9 = .fs 1 (List.map eI s1_) ∧ t 10 = I (List.length s1_ : Int) ∧ t 11 = I x_11) ?_ ?_
  · exact ⟨s0, s1, (by first | rfl | simp only [go_sem, List.length_append, List.map_append]), (by first | rfl | simp only [go_sem, List.length_append, List.map_append]), (by first | rfl | simp only [go_sem, List.length_append, List.map_append])⟩
  · rintro x_11 o t h ⟨s0, s1, s9, s10, s11⟩ hm1 hb5
    simp only [slices_Compare___int_int__L11] at hm1
    rw [x_slices_Compare___int_int__L11]
    refine cw_reg_seq fun K hK => ?_
    simp only [go_sem, s10, s11]
    refine hK _ _ ?_
    clear hK K
    refine cw_seq_k fun K6 hK6 => ?_
    simp only [go_sem]
    refine ibr_intro (fun hc7 => ?_) (fun hc7 => ?_)
    · rw [if_t hc7] at hm1
      simp only [cw_skip, qblock_normal, qseq_normal]
      refine hK6 _ _ ?_
      refine cw_seq_k fun K8 hK8 => ?_
      simp only [cw_block]
      obtain ⟨x10, h_x10, hm1⟩ := bind_get hm1
      have h_x100 := get_nn h_x10
      have h_x101 := get_lt h_x10
      refine cw_reg_seq fun K hK => ?_
      simp only [go_sem, s9, s11, ielem_get h_x10, irow_get h_x10, h_x100, h_x101]
      refine hK _ _ ?_
      clear hK K
      refine cw_assoc ?_
      refine cw_reg_seq fun K hK => ?_
      simp only [go_sem, s1]
      refine hK _ _ ?_
      clear hK K
      refine cw_seq_k fun K11 hK11 => ?_
      simp only [go_sem]
      refine ibr_intro (fun hc12 => ?_) (fun hc12 => ?_)
      · rw [if_t hc12] at hm1
        refine cw_reg_seq fun K hK => ?_
        simp only [go_sem]
        refine hK _ _ ?_
        clear hK K
        simp only [cw_ret, qseq_ret, qblock_ret, retQ_ret]
        obtain rfl := Option.some.inj hm1
        obtain rfl := hb5 _ rfl
        try dsimp only at hm0
        obtain rfl := Option.some.inj hm0
        exact done_t (by simp only [go_sem, List.length_append, List.map_append]) (frz_v _)
      · rw [if_f hc12] at hm1
        simp only [cw_skip, qblock_normal, qseq_normal]
        refine hK11 _ _ ?_
        obtain ⟨x14, h_x14, hm1⟩ := bind_get hm1
        have h_x140 := get_nn h_x14
        have h_x141 := get_lt h_x14
        refine cw_reg_seq fun K hK => ?_
        simp only [go_sem, s1, ielem_get h_x14, irow_get h_x14, h_x140, h_x141]
        refine hK _ _ ?_
        clear hK K
        refine cw_reg_seq fun K hK => ?_
        simp only [go_sem]
        refine icall_fn (k_cmp_Compare_int_ x10 x14) ?_
        simp only [go_sem]
        refine hK _ _ ?_
        clear hK K
        refine cw_reg_seq fun K hK => ?_
        simp only [go_sem]
        refine hK _ _ ?_
        clear hK K
        simp only [go_sem]
        refine ibr_intro (fun hc15 => ?_) (fun hc15 => ?_)
        · rw [if_t hc15] at hm1
          refine cw_reg_seq fun K hK => ?_
          simp only [go_sem]
          refine hK _ _ ?_
          clear hK K
          simp only [cw_ret, qseq_ret, qblock_ret, retQ_ret]
          obtain rfl := Option.some.inj hm1
          obtain rfl := hb5 _ rfl
          try dsimp only at hm0
          obtain rfl := Option.some.inj hm0
          exact done_t (by simp only [go_sem, List.length_append, List.map_append]) (frz_v _)
        · rw [if_f hc15] at hm1
          simp only [cw_skip, qblock_normal, qseq_normal]
          refine hK8 _ _ ?_
          refine cw_reg_k fun K hK => ?_
          simp only [go_sem, s11]
          refine hK _ _ ?_
          clear hK K
          simp only [qblock_normal, qseq_normal]
          obtain rfl := Option.some.inj hm1
          refine ⟨_, rfl, ?_⟩
          exact ⟨s0, s1, s9, s10, (by first | rfl | exact s11 | simp only [go_sem, s11, List.length_append, List.map_append])⟩
    · rw [if_f hc7] at hm1
      simp only [cw_exit, qseq_exit, qblock_same, qblock_ne, qblock_normal, qseq_normal, Nat.reduceEqDiff, not_false_eq_true]
      obtain rfl := Option.some.inj hm1
      obtain rfl := hb5 _ rfl
      try dsimp only at hm0
      exact J2  _ _ s0 s1 hm0

end Go.Nw.DM

namespace Go.Nw.DM
open Go.Nw.Door
set_option linter.unusedSimpArgs false
set_option linter.unusedVariables false
variable {O : Orac}

theorem k_slices_ContainsFunc___int_int_ (hf : Has O "slices.ContainsFunc[[]int,int]" x_slices_ContainsFunc___int_int_) (k_slices_IndexFunc___int_int_ : C_slices_IndexFunc___int_int_ O) : C_slices_ContainsFunc___int_int_ O := by
  intro s f_n f_a f_b f f_z f_h r hm0
  unfold slices_ContainsFunc___int_int_ at hm0
  refine fn_cw hf rfl (fz_cons (frz_fs fun a _ => fz_eI a) (fz_cons f_z fz_nil)) (frz_v _) ?_
  refine cw_start (fun t h => t 0 = .fs 1 (List.map eI s) ∧ t 1 = .fn f_n f_a f_b) ⟨rfl, rfl⟩ fun t h ⟨s0, s1⟩ => ?_
  simp only [x_slices_ContainsFunc___int_int_]
  refine cw_reg_seq fun K hK => ?_
  simp only [go_sem]
  refine hK _ _ ?_
  clear hK K
  obtain ⟨y2, h_y2, hm0⟩ := bind_get hm0
  refine cw_reg_seq fun K hK => ?_
  simp only [go_sem, s0, s1]
  refine icall_fn (k_slices_IndexFunc___int_int_ s f_n f_a f_b f f_z f_h _ h_y2) ?_
  simp only [go_sem, s0, s1]
  refine hK _ _ ?_
  clear hK K
  simp only [cw_ret, qseq_ret, qblock_ret, retQ_ret]
  obtain rfl := Option.some.inj hm0
  exact done_t (by simp only [go_sem, List.length_append, List.map_append]) (frz_v _)

end Go.Nw.DM
