/- That the texts make what their models say: printed by a program. -/
import Derived.Test.YtmlhjobmpjpmnaaDoorDM
set_option linter.all false
set_option linter.unusedVariables false
set_option linter.unusedSimpArgs false
set_option linter.unusedSectionVars false
namespace Go.Nw.DM
open Go.Nw.Door
set_option linter.unusedSimpArgs false
set_option linter.unusedVariables false
variable {O : Orac}

theorem k__circuit_state__conducts (hf : Has O "(newel/circuit.state).conducts" x__circuit_state__conducts) : C__circuit_state__conducts O := by
  intro s sw r hm0
  unfold _circuit_state__conducts at hm0
  refine fn_cw hf rfl (fz_cons (.agg _ (fz_cons (frz_v _) (fz_cons (frz_fs fun a _ => fz_eI a) (fz_cons (frz_fs fun a _ => fz_eWire a) (fz_cons (frz_v _) (fz_cons (frz_v _) (fz_cons (frz_v _) fz_nil))))))) (fz_cons (frz_v _) fz_nil)) (frz_v _) ?_
  refine cw_start (fun t h => t 0 = .agg [I s.c.Hazards, .fs 1 (List.map eI s.c.Switches), .fs 2 (List.map eWire s.c.Wires), I s.hazards, I s.closed, I s.open_] ∧ t 1 = I sw) ⟨rfl, rfl⟩ fun t h ⟨s0, s1⟩ => ?_
  simp only [x__circuit_state__conducts]
  refine cw_reg_seq fun K hK => ?_
  simp only [go_sem, s0]
  refine hK _ _ ?_
  clear hK K
  obtain ⟨q6, h_q6, hm0⟩ := bind_get hm0
  obtain ⟨c10, h_c10, hm0⟩ := bind_get hm0
  refine cw_reg_postK (fun t h => t 4 = B c10) (fun K hK => ?_) ?_
  · simp only [go_sem, s1, ibin_shr h_q6]
    refine ibr_intro (fun hg11 => ?_) (fun hg11 => ?_)
    · simp only [hg11, Bool.not_true, Bool.not_false, eq_self, if_true, if_false, Bool.true_or, Bool.or_true, Bool.false_or, Bool.or_false, Bool.true_and, Bool.and_true, Bool.false_and, Bool.and_false, Bool.false_eq_true] at h_c10
      obtain ⟨q7, h_q7, h_c10⟩ := bind_get h_c10
      obtain ⟨c9, h_c9, h_c10⟩ := bind_get h_c10
      obtain rfl := Option.some.inj h_c10
      simp only [go_sem, s1, ibin_shr h_q6, ibin_shr h_q7, hg11]
      refine ibr_intro (fun hg12 => ?_) (fun hg12 => ?_)
      · simp only [hg11, hg12, Bool.not_true, Bool.not_false, eq_self, if_true, if_false, Bool.true_or, Bool.or_true, Bool.false_or, Bool.or_false, Bool.true_and, Bool.and_true, Bool.false_and, Bool.and_false, Bool.false_eq_true] at h_c9
        obtain rfl := Option.some.inj h_c9
        simp only [go_sem, s1, ibin_shr h_q6, ibin_shr h_q7, hg11, hg12]
        exact hK _ _ (by first | rfl | simp only [go_sem, hg11, hg12, List.length_append, List.map_append])
      · simp only [hg11, hg12, Bool.not_true, Bool.not_false, eq_self, if_true, if_false, Bool.true_or, Bool.or_true, Bool.false_or, Bool.or_false, Bool.true_and, Bool.and_true, Bool.false_and, Bool.and_false, Bool.false_eq_true] at h_c9
        obtain ⟨x8, h_x8, h_c9⟩ := bind_get h_c9
        have h_x80 := get_nn h_x8
        have h_x81 := get_lt h_x8
        obtain rfl := Option.some.inj h_c9
        simp only [go_sem, s1, ibin_shr h_q6, ibin_shr h_q7, ielem_get h_x8, irow_get h_x8, h_x80, h_x81, hg11, hg12]
        exact hK _ _ (by first | rfl | simp only [go_sem, hg11, hg12, List.length_append, List.map_append])
    · simp only [hg11, Bool.not_true, Bool.not_false, eq_self, if_true, if_false, Bool.true_or, Bool.or_true, Bool.false_or, Bool.or_false, Bool.true_and, Bool.and_true, Bool.false_and, Bool.and_false, Bool.false_eq_true] at h_c10
      obtain rfl := Option.some.inj h_c10
      simp only [go_sem, s1, ibin_shr h_q6, hg11]
      exact hK _ _ (by first | rfl | simp only [go_sem, hg11, List.length_append, List.map_append])
  · rintro t h s4
    simp only [cw_ret, qseq_ret, qblock_ret, retQ_ret]
    obtain rfl := Option.some.inj hm0
    exact done_t (by simp only [go_sem, s4, List.length_append, List.map_append]) (frz_v _)

end Go.Nw.DM

namespace Go.Nw.DM
open Go.Nw.Door
set_option linter.unusedSimpArgs false
set_option linter.unusedVariables false
variable {O : Orac}

theorem k__circuit_state__wireD1 (hf : Has O "(newel/circuit.state).wire$1" x__circuit_state__wireD1) : C__circuit_state__wireD1 O := by
  intro self__circuit_state__wire self__circuit_state__wire_h k c0 r hm0
  unfold _circuit_state__wireD1 at hm0
  refine fn_cw hf rfl (fz_cons (frz_v _) (fz_cons (.fp _ _ (fz_cons (frz_v _) (fz_cons (frz_fs fun a _ => fz_eI a) (fz_cons (frz_fs fun a _ => fz_eWire a) (fz_cons (frz_v _) (fz_cons (frz_v _) (fz_cons (frz_v _) fz_nil))))))) fz_nil)) (frz_v _) ?_
  refine cw_start (fun t h => t 0 = I k ∧ t 1 = .fp [I c0.c.Hazards, .fs 1 (List.map eI c0.c.Switches), .fs 2 (List.map eWire c0.c.Wires), I c0.hazards, I c0.closed, I c0.open_] 0) ⟨rfl, rfl⟩ fun t h ⟨s0, s1⟩ => ?_
  simp only [x__circuit_state__wireD1]
  refine cw_reg_seq fun K hK => ?_
  simp only [go_sem]
  refine hK _ _ ?_
  clear hK K
  obtain ⟨y2, h_y2, hm0⟩ := bind_get hm0
  refine cw_reg_seq fun K hK => ?_
  simp only [go_sem, s0, s1]
  refine icall_fn (self__circuit_state__wire_h c0 k _ h_y2) ?_
  simp only [go_sem, s0, s1]
  refine hK _ _ ?_
  clear hK K
  simp only [cw_ret, qseq_ret, qblock_ret, retQ_ret]
  obtain rfl := Option.some.inj hm0
  exact done_t (by simp only [go_sem, List.length_append, List.map_append]) (frz_v _)

end Go.Nw.DM

namespace Go.Nw.DM
open Go.Nw.Door
set_option linter.unusedSimpArgs false
set_option linter.unusedVariables false
variable {O : Orac}

theorem k__circuit_state__wire_body (hf : Has O "(newel/circuit.state).wire" x__circuit_state__wire) (k__circuit_state__conducts : C__circuit_state__conducts O) (k_slices_ContainsFunc___int_int_ : C_slices_ContainsFunc___int_int_ O) (k__circuit_state__wireD1 : C__circuit_state__wireD1 O) : C__circuit_state__wire_body O := by
  intro self__circuit_state__wire self__circuit_state__wire_h s i r hm0
  unfold _circuit_state__wire_body at hm0
  refine fn_cw hf rfl (fz_cons (.agg _ (fz_cons (frz_v _) (fz_cons (frz_fs fun a _ => fz_eI a) (fz_cons (frz_fs fun a _ => fz_eWire a) (fz_cons (frz_v _) (fz_cons (frz_v _) (fz_cons (frz_v _) fz_nil))))))) (fz_cons (frz_v _) fz_nil)) (frz_v _) ?_
  refine cw_start (fun t h => t 0 = .agg [I s.c.Hazards, .fs 1 (List.map eI s.c.Switches), .fs 2 (List.map eWire s.c.Wires), I s.hazards, I s.closed, I s.open_] ∧ t 1 = I i) ⟨rfl, rfl⟩ fun t h ⟨s0, s1⟩ => ?_
  simp only [x__circuit_state__wire]
  refine cw_reg_seq fun K hK => ?_
  simp only [go_sem, s0]
  refine hK _ _ ?_
  clear hK K
  obtain ⟨x2, h_x2, hm0⟩ := bind_get hm0
  have h_x20 := get_nn h_x2
  have h_x21 := get_lt h_x2
  refine cw_reg_seq fun K hK => ?_
  simp only [go_sem, s1, ielem_get h_x2, irow_get h_x2, h_x20, h_x21]
  refine hK _ _ ?_
  clear hK K
  refine cw_assoc ?_
  refine cw_reg_seq fun K hK => ?_
  simp only [go_sem]
  refine hK _ _ ?_
  clear hK K
  refine cw_seq_k fun K3 hK3 => ?_
  simp only [cw_block]
  refine cw_reg_seq fun K hK => ?_
  simp only [go_sem]
  refine hK _ _ ?_
  clear hK K
  simp only [go_sem]
  refine ibr_intro (fun hc4 => ?_) (fun hc4 => ?_)
  · rw [if_t hc4] at hm0
    obtain ⟨x7, h_x7, hm0⟩ := bind_get hm0
    have h_x70 := get_nn h_x7
    have h_x71 := get_lt h_x7
    obtain ⟨y8, h_y8, hm0⟩ := bind_get hm0
    refine cw_reg_seq fun K hK => ?_
    simp only [go_sem, ielem_get h_x7, irow_get h_x7, h_x70, h_x71]
    refine icall_fn (k__circuit_state__conducts s x7 _ h_y8) ?_
    simp only [go_sem, ielem_get h_x7, irow_get h_x7, h_x70, h_x71]
    refine hK _ _ ?_
    clear hK K
    simp only [cw_ret, qseq_ret, qblock_ret, retQ_ret]
    obtain rfl := Option.some.inj hm0
    exact done_t (by simp only [go_sem, List.length_append, List.map_append]) (frz_v _)
  · rw [if_f hc4] at hm0
    refine cw_reg_seq fun K hK => ?_
    simp only [go_sem]
    refine hK _ _ ?_
    clear hK K
    simp only [go_sem]
    refine ibr_intro (fun hc9 => ?_) (fun hc9 => ?_)
    · rw [if_t hc9] at hm0
      obtain ⟨y13, h_y13, hm0⟩ := bind_get hm0
      refine cw_reg_seq fun K hK => ?_
      simp only [go_sem]
      refine icall_fn (k_slices_ContainsFunc___int_int_ x2.Of "(newel/circuit.state).wire" [.agg [I s.c.Hazards, .fs 1 (List.map eI s.c.Switches), .fs 2 (List.map eWire s.c.Wires), I s.hazards, I s.closed, I s.open_]] [] (fun z12 => self__circuit_state__wire s z12) (.fn _ _ _ (fz_cons (.agg _ (fz_cons (frz_v _) (fz_cons (frz_fs fun a _ => fz_eI a) (fz_cons (frz_fs fun a _ => fz_eWire a) (fz_cons (frz_v _) (fz_cons (frz_v _) (fz_cons (frz_v _) fz_nil))))))) fz_nil) fz_nil) (fun z0 y hz => self__circuit_state__wire_h s z0 y hz) _ h_y13) ?_
      simp only [go_sem]
      refine hK _ _ ?_
      clear hK K
      simp only [cw_ret, qseq_ret, qblock_ret, retQ_ret]
      obtain rfl := Option.some.inj hm0
      exact done_t (by simp only [go_sem, List.length_append, List.map_append]) (frz_v _)
    · rw [if_f hc9] at hm0
      simp only [cw_skip, qblock_normal, qseq_normal]
      refine hK3 _ _ ?_
      obtain ⟨y17, h_y17, hm0⟩ := bind_get hm0
      refine cw_reg_seq fun K hK => ?_
      simp only [go_sem]
      refine icall_fn (k_slices_ContainsFunc___int_int_ x2.Of "(newel/circuit.state).wire$1" [] [.fp [I s.c.Hazards, .fs 1 (List.map eI s.c.Switches), .fs 2 (List.map eWire s.c.Wires), I s.hazards, I s.closed, I s.open_] 0] (fun z16 => _circuit_state__wireD1 self__circuit_state__wire z16 s) (.fn _ _ _ fz_nil (fz_cons (.fp _ _ (fz_cons (frz_v _) (fz_cons (frz_fs fun a _ => fz_eI a) (fz_cons (frz_fs fun a _ => fz_eWire a) (fz_cons (frz_v _) (fz_cons (frz_v _) (fz_cons (frz_v _) fz_nil))))))) fz_nil)) (fun z0 y hz => k__circuit_state__wireD1 self__circuit_state__wire self__circuit_state__wire_h z0 s y hz) _ h_y17) ?_
      simp only [go_sem]
      refine hK _ _ ?_
      clear hK K
      simp only [cw_ret, qseq_ret, qblock_ret, retQ_ret]
      obtain rfl := Option.some.inj hm0
      exact done_t (by simp only [go_sem, List.length_append, List.map_append]) (frz_v _)

theorem k__circuit_state__wire (k__circuit_state__wire_body : C__circuit_state__wire_body O) : C__circuit_state__wire O := by
  intro n
  induction n with
  | zero => intro s i r h; cases h
  | succ n ih => exact fun s i r h => k__circuit_state__wire_body (_circuit_state__wire n) ih s i r h

end Go.Nw.DM

namespace Go.Nw.DM
open Go.Nw.Door
set_option linter.unusedSimpArgs false
set_option linter.unusedVariables false
variable {O : Orac}

theorem k_circuit_Blind (hf : Has O "newel/circuit.Blind" x_circuit_Blind) (k_circuit_check : C_circuit_check O) (k_circuit_all : C_circuit_all O) (k_circuit_elements : C_circuit_elements O) : C_circuit_Blind O := by
  intro c l r hm0
  unfold circuit_Blind at hm0
  refine fn_cw hf rfl (fz_cons (.agg _ (fz_cons (frz_v _) (fz_cons (frz_fs fun a _ => fz_eI a) (fz_cons (frz_fs fun a _ => fz_eWire a) fz_nil)))) (fz_cons (frz_fs fun a _ => fz_eTrial a) fz_nil)) (.tup _ (fz_cons (frz_fs fun a _ => fz_eI a) (fz_cons (frz_v _) fz_nil))) ?_
  refine cw_start (fun t h => t 0 = .agg [I c.Hazards, .fs 1 (List.map eI c.Switches), .fs 2 (List.map eWire c.Wires)] ∧ t 1 = .fs 2 (List.map eTrial l)) ⟨rfl, rfl⟩ fun t h ⟨s0, s1⟩ => ?_
  simp only [x_circuit_Blind]
  refine cw_reg_seq fun K hK => ?_
  simp only [go_sem, s0]
  refine hK _ _ ?_
  clear hK K
  refine cw_assoc ?_
  obtain ⟨y2, h_y2, hm0⟩ := bind_get hm0
  refine cw_reg_seq fun K hK => ?_
  simp only [go_sem, s1]
  refine icall_fn (k_circuit_check c l _ h_y2) ?_
  simp only [go_sem, s1]
  refine hK _ _ ?_
  clear hK K
  refine cw_assoc ?_
  refine cw_reg_seq fun K hK => ?_
  simp only [go_sem]
  refine hK _ _ ?_
  clear hK K
  refine cw_seq_k fun K3 hK3 => ?_
  simp only [go_sem]
  refine ibr_intro (fun hc4 => ?_) (fun hc4 => ?_)
  · rw [if_t hc4] at hm0
    refine cw_reg_seq fun K hK => ?_
    simp only [go_sem]
    refine hK _ _ ?_
    clear hK K
    simp only [cw_ret, qseq_ret, qblock_ret, retQ_ret]
    obtain rfl := Option.some.inj hm0
    exact done_fz2 (v := .v (.slice none 0 0)) (u := I y2) (by simp only [go_sem, List.length_append, List.map_append]) (by simp only [go_sem, List.length_append, List.map_append]) (.nil _) (.refl _ (frz_v _))
  · rw [if_f hc4] at hm0
    simp only [cw_skip, qblock_normal, qseq_normal]
    refine hK3 _ _ ?_
    obtain ⟨y6, h_y6, hm0⟩ := bind_get hm0
    refine cw_reg_seq fun K hK => ?_
    simp only [go_sem, s1]
    refine icall_fn (k_circuit_all c l _ h_y6) ?_
    simp only [go_sem, s1]
    refine hK _ _ ?_
    clear hK K
    obtain ⟨q9, h_q9, hm0⟩ := bind_get hm0
    obtain ⟨y10, h_y10, hm0⟩ := bind_get hm0
    refine cw_reg_seq fun K hK => ?_
    simp only [go_sem, ibin_shl h_q9]
    refine icall_fn (k_circuit_elements (bclr (wr (q9 - 1)) y6.2) _ h_y10) ?_
    simp only [go_sem, ibin_shl h_q9]
    refine hK _ _ ?_
    clear hK K
    simp only [cw_ret, qseq_ret, qblock_ret, retQ_ret]
    obtain rfl := Option.some.inj hm0
    exact done_t2 (by simp only [go_sem, List.length_append, List.map_append]) (by simp only [go_sem, List.length_append, List.map_append]) (frz_fs fun a _ => fz_eI a) (frz_v _)

end Go.Nw.DM

namespace Go.Nw.DM
open Go.Nw.Door
set_option linter.unusedSimpArgs false
set_option linter.unusedVariables false
variable {O : Orac}

theorem k_circuit_Check (hf : Has O "newel/circuit.Check" x_circuit_Check) (k_slices_Contains___bool_bool_ : C_slices_Contains___bool_bool_ O) (k_slices_ContainsFunc___int_int_ : C_slices_ContainsFunc___int_int_ O) (k_circuit_CheckD1 : C_circuit_CheckD1 O) (k_circuit_ascending : C_circuit_ascending O) (k_circuit_CheckD2 : C_circuit_CheckD2 O) : C_circuit_Check O := by
  intro c r hm0
  unfold circuit_Check at hm0
  refine fn_cw hf rfl (fz_cons (.agg _ (fz_cons (frz_v _) (fz_cons (frz_fs fun a _ => fz_eI a) (fz_cons (frz_fs fun a _ => fz_eWire a) fz_nil)))) fz_nil) (frz_v _) ?_
  refine cw_start (fun t h => t 0 = .agg [I c.Hazards, .fs 1 (List.map eI c.Switches), .fs 2 (List.map eWire c.Wires)]) rfl fun t h s0 => ?_
  simp only [x_circuit_Check]
  refine cw_reg_seq fun K hK => ?_
  simp only [go_sem, s0]
  refine hK _ _ ?_
  clear hK K
  refine cw_reg_postK (fun t h => ∃ i3 : Nat, t 1 = .fp [I c.Hazards, .fs 1 (List.map eI c.Switches), .fs 2 (List.map eWire c.Wires)] 0 ∧ t 3 = .rs i3 0 (List.length ([(decide (1 ≤ c.Hazards)) && (decide (c.Hazards ≤ 8)), (decide (1 ≤ (List.length c.Switches : Int))) && (decide ((List.length c.Switches : Int) ≤ 12)), (decide (1 ≤ (List.length c.Wires : Int))) && (decide ((List.length c.Wires : Int) ≤ 24))])) ∧ h.ob i3 = some (1, List.map eB ([(decide (1 ≤ c.Hazards)) && (decide (c.Hazards ≤ 8)), (decide (1 ≤ (List.length c.Switches : Int))) && (decide ((List.length c.Switches : Int) ≤ 12)), (decide (1 ≤ (List.length c.Wires : Int))) && (decide ((List.length c.Wires : Int) ≤ 24))])) ∧ i3 < h.nx) (fun K hK => ?_) ?_
  · simp only [go_sem]
    refine ibr_intro (fun hg1 => ?_) (fun hg1 => ?_)
    · simp only [go_sem, hg1]
      refine ibr_intro (fun hg2 => ?_) (fun hg2 => ?_)
      · simp only [go_sem, hg1, hg2]
        refine ibr_intro (fun hg3 => ?_) (fun hg3 => ?_)
        · simp only [go_sem, hg1, hg2, hg3]
          exact hK _ _ ⟨h.nx, (by first | rfl | simp only [go_sem, hg1, hg2, hg3, List.length_append, List.map_append]), (by first | rfl | simp only [go_sem, hg1, hg2, hg3, List.length_append, List.map_append]), (by simp only [go_sem, hg1, hg2, hg3, List.length_append, List.map_append]), (by simp only [go_sem])⟩
        · simp only [go_sem, hg1, hg2, hg3]
          exact hK _ _ ⟨h.nx, (by first | rfl | simp only [go_sem, hg1, hg2, hg3, List.length_append, List.map_append]), (by first | rfl | simp only [go_sem, hg1, hg2, hg3, List.length_append, List.map_append]), (by simp only [go_sem, hg1, hg2, hg3, List.length_append, List.map_append]), (by simp only [go_sem])⟩
      · simp only [go_sem, hg1, hg2]
        refine ibr_intro (fun hg4 => ?_) (fun hg4 => ?_)
        · simp only [go_sem, hg1, hg2, hg4]
          exact hK _ _ ⟨h.nx, (by first | rfl | simp only [go_sem, hg1, hg2, hg4, List.length_append, List.map_append]), (by first | rfl | simp only [go_sem, hg1, hg2, hg4, List.length_append, List.map_append]), (by simp only [go_sem, hg1, hg2, hg4, List.length_append, List.map_append]), (by simp only [go_sem])⟩
        · simp only [go_sem, hg1, hg2, hg4]
          exact hK _ _ ⟨h.nx, (by first | rfl | simp only [go_sem, hg1, hg2, hg4, List.length_append, List.map_append]), (by first | rfl | simp only [go_sem, hg1, hg2, hg4, List.length_append, List.map_append]), (by simp only [go_sem, hg1, hg2, hg4, List.length_append, List.map_append]), (by simp only [go_sem])⟩
    · simp only [go_sem, hg1]
      refine ibr_intro (fun hg5 => ?_) (fun hg5 => ?_)
      · simp only [go_sem, hg1, hg5]
        refine ibr_intro (fun hg6 => ?_) (fun hg6 => ?_)
        · simp only [go_sem, hg1, hg5, hg6]
          exact hK _ _ ⟨h.nx, (by first | rfl | simp only [go_sem, hg1, hg5, hg6, List.length_append, List.map_append]), (by first | rfl | simp only [go_sem, hg1, hg5, hg6, List.length_append, List.map_append]), (by simp only [go_sem, hg1, hg5, hg6, List.length_append, List.map_append]), (by simp only [go_sem])⟩
        · simp only [go_sem, hg1, hg5, hg6]
          exact hK _ _ ⟨h.nx, (by first | rfl | simp only [go_sem, hg1, hg5, hg6, List.length_append, List.map_append]), (by first | rfl | simp only [go_sem, hg1, hg5, hg6, List.length_append, List.map_append]), (by simp only [go_sem, hg1, hg5, hg6, List.length_append, List.map_append]), (by simp only [go_sem])⟩
      · simp only [go_sem, hg1, hg5]
        refine ibr_intro (fun hg7 => ?_) (fun hg7 => ?_)
        · simp only [go_sem, hg1, hg5, hg7]
          exact hK _ _ ⟨h.nx, (by first | rfl | simp only [go_sem, hg1, hg5, hg7, List.length_append, List.map_append]), (by first | rfl | simp only [go_sem, hg1, hg5, hg7, List.length_append, List.map_append]), (by simp only [go_sem, hg1, hg5, hg7, List.length_append, List.map_append]), (by simp only [go_sem])⟩
        · simp only [go_sem, hg1, hg5, hg7]
          exact hK _ _ ⟨h.nx, (by first | rfl | simp only [go_sem, hg1, hg5, hg7, List.length_append, List.map_append]), (by first | rfl | simp only [go_sem, hg1, hg5, hg7, List.length_append, List.map_append]), (by simp only [go_sem, hg1, hg5, hg7, List.length_append, List.map_append]), (by simp only [go_sem])⟩
  · rintro t h ⟨i3, s1, s3, ob_o3, lt_o3⟩
    refine cw_assoc ?_
    obtain ⟨y12, h_y12, hm0⟩ := bind_get hm0
    obtain ⟨c15, h_c15, hm0⟩ := bind_get hm0
    refine cw_reg_postK (fun t h => t 1 = .fp [I c.Hazards, .fs 1 (List.map eI c.Switches), .fs 2 (List.map eWire c.Wires)] 0 ∧ t 45 = B c15) (fun K hK => ?_) ?_
    · simp only [go_sem, s1, s3, ob_o3, lt_o3]
      refine icall_fz ?_ (k_slices_Contains___bool_bool_ ([(decide (1 ≤ c.Hazards)) && (decide (c.Hazards ≤ 8)), (decide (1 ≤ (List.length c.Switches : Int))) && (decide ((List.length c.Switches : Int) ≤ 12)), (decide (1 ≤ (List.length c.Wires : Int))) && (decide ((List.length c.Wires : Int) ≤ 24))]) false _ h_y12) (.v _) ?_
      · exact .cons (fz_rs (f := eB) (l := ([(decide (1 ≤ c.Hazards)) && (decide (c.Hazards ≤ 8)), (decide (1 ≤ (List.length c.Switches : Int))) && (decide ((List.length c.Switches : Int) ≤ 12)), (decide (1 ≤ (List.length c.Wires : Int))) && (decide ((List.length c.Wires : Int) ≤ 24))])) (by simp only [go_sem, ob_o3, lt_o3, List.length_append, List.map_append]) (by first | rfl | simp only [go_sem, List.length_append, List.map_append]) fz_eB ln_eB) (.cons (.refl _ (frz_v _)) (.nil))
      simp only [go_sem, s1, s3, ob_o3, lt_o3]
      refine ibr_intro (fun hg16 => ?_) (fun hg16 => ?_)
      · simp only [hg16, Bool.not_true, Bool.not_false, eq_self, if_true, if_false, Bool.true_or, Bool.or_true, Bool.false_or, Bool.or_false, Bool.true_and, Bool.and_true, Bool.false_and, Bool.and_false, Bool.false_eq_true] at h_c15
        obtain rfl := Option.some.inj h_c15
        simp only [go_sem, s1, s3, ob_o3, lt_o3, hg16]
        exact hK _ _ ⟨s1, (by first | rfl | simp only [go_sem, hg16, List.length_append, List.map_append])⟩
      · simp only [hg16, Bool.not_true, Bool.not_false, eq_self, if_true, if_false, Bool.true_or, Bool.or_true, Bool.false_or, Bool.or_false, Bool.true_and, Bool.and_true, Bool.false_and, Bool.and_false, Bool.false_eq_true] at h_c15
        obtain ⟨y14, h_y14, h_c15⟩ := bind_get h_c15
        obtain rfl := Option.some.inj h_c15
        simp only [go_sem, s1, s3, ob_o3, lt_o3, hg16]
        refine icall_fn (k_slices_ContainsFunc___int_int_ c.Switches "newel/circuit.Check$1" [] [.fp [I c.Hazards, .fs 1 (List.map eI c.Switches), .fs 2 (List.map eWire c.Wires)] 0] (fun z13 => circuit_CheckD1 z13 c) (.fn _ _ _ fz_nil (fz_cons (.fp _ _ (fz_cons (frz_v _) (fz_cons (frz_fs fun a _ => fz_eI a) (fz_cons (frz_fs fun a _ => fz_eWire a) fz_nil)))) fz_nil)) (fun z0 y hz => k_circuit_CheckD1 z0 c y hz) _ h_y14) ?_
        simp only [go_sem, s1, s3, ob_o3, lt_o3, hg16]
        exact hK _ _ ⟨s1, (by first | rfl | simp only [go_sem, hg16, List.length_append, List.map_append])⟩
    · rintro t h ⟨s1, s45⟩
      refine cw_seq_k fun K17 hK17 => ?_
      simp only [go_sem, s45]
      refine ibr_intro (fun hc18 => ?_) (fun hc18 => ?_)
      · rw [if_t hc18] at hm0
        refine cw_reg_seq fun K hK => ?_
        simp only [go_sem]
        refine hK _ _ ?_
        clear hK K
        simp only [cw_ret, qseq_ret, qblock_ret, retQ_ret]
        obtain rfl := Option.some.inj hm0
        exact done_t (by simp only [go_sem, List.length_append, List.map_append]) (frz_v _)
      · rw [if_f hc18] at hm0
        simp only [cw_skip, qblock_normal, qseq_normal]
        refine hK17 _ _ ?_
        obtain ⟨l20, h_l20, hm0⟩ := bind_get hm0
        refine cw_reg_seq fun K hK => ?_
        simp only [go_sem, s1]
        refine imksl_ok (f := eI) (z := 0) rfl h_l20 ?_
        simp only [go_sem, s1]
        refine hK _ _ ?_
        clear hK K
        refine cw_assoc ?_
        refine cw_reg_seq fun K hK => ?_
        simp only [go_sem, s1]
        refine hK _ _ ?_
        clear hK K
        refine cw_seq_k fun K21 hK21 => ?_
        have J22 : ∀ (held_4 : List Int) (i4 : Nat) (t : Slots) (h : Heap), t 4 = .rs i4 0 (List.length held_4) → h.ob i4 = some (1, List.map eI held_4) → i4 < h.nx → circuit_Check_j22 held_4 = some r → K21 t h := by
          intro held_4 i4 t h s4 ob_o4 lt_o4 hm0
          refine hK21 _ _ ?_
          unfold circuit_Check_j22 at hm0
          refine cw_assoc ?_
          refine cw_assoc ?_
          refine cw_ghost_own (s := 4) (v := .rs i4 0 (List.length held_4)) (f := eI) (l := held_4) (by simp only [go_sem, s4, ob_o4, lt_o4, List.length_append, List.map_append]) (own_rs (by simp only [go_sem, s4, ob_o4, lt_o4, List.length_append, List.map_append]) (by simp only [go_sem, s4, ob_o4, lt_o4, List.length_append, List.map_append]) (by simp only [go_sem, lt_o4])) fz_eI ln_eI ?_
          simp only [frzH_nil, frzH_rs]
          obtain ⟨x28, h_x28, hm0⟩ := bind_get hm0
          have h_x280 := get_nn h_x28
          have h_x281 := get_lt h_x28
          obtain ⟨c32, h_c32, hm0⟩ := bind_get hm0
          refine cw_reg_postK (fun t h => t 122 = B c32) (fun K hK => ?_) ?_
          · simp only [go_sem, s4, ielem_get h_x28, irow_get h_x28, h_x280, h_x281]
            refine ibr_intro (fun hg33 => ?_) (fun hg33 => ?_)
            · simp only [hg33, Bool.not_true, Bool.not_false, eq_self, if_true, if_false, Bool.true_or, Bool.or_true, Bool.false_or, Bool.or_false, Bool.true_and, Bool.and_true, Bool.false_and, Bool.and_false, Bool.false_eq_true] at h_c32
              obtain rfl := Option.some.inj h_c32
              simp only [go_sem, s4, ielem_get h_x28, irow_get h_x28, h_x280, h_x281, hg33]
              exact hK _ _ (by first | rfl | simp only [go_sem, hg33, List.length_append, List.map_append])
            · simp only [hg33, Bool.not_true, Bool.not_false, eq_self, if_true, if_false, Bool.true_or, Bool.or_true, Bool.false_or, Bool.or_false, Bool.true_and, Bool.and_true, Bool.false_and, Bool.and_false, Bool.false_eq_true] at h_c32
              obtain ⟨l29, h_l29, h_c32⟩ := bind_get h_c32
              obtain ⟨y31, h_y31, h_c32⟩ := bind_get h_c32
              obtain rfl := Option.some.inj h_c32
              simp only [go_sem, s4, ielem_get h_x28, irow_get h_x28, h_x280, h_x281, hg33]
              refine islc_fs (f := eI) (l := held_4) (lo := some 1) (hi := none) h_l29 ?_
              simp only [go_sem, s4, ielem_get h_x28, irow_get h_x28, h_x280, h_x281, hg33]
              refine icall_fn (k_slices_ContainsFunc___int_int_ l29 "newel/circuit.Check$2" [] [] (fun z30 => some (circuit_CheckD2 z30)) (.fn _ _ _ fz_nil fz_nil) (fun z0 y hz => by cases hz; exact k_circuit_CheckD2 z0) _ h_y31) ?_
              simp only [go_sem, s4, ielem_get h_x28, irow_get h_x28, h_x280, h_x281, hg33]
              exact hK _ _ (by first | rfl | simp only [go_sem, hg33, List.length_append, List.map_append])
          · rintro t h s122
            refine cw_seq_k fun K34 hK34 => ?_
            simp only [go_sem, s122]
            refine ibr_intro (fun hc35 => ?_) (fun hc35 => ?_)
            · rw [if_t hc35] at hm0
              refine cw_reg_seq fun K hK => ?_
              simp only [go_sem]
              refine hK _ _ ?_
              clear hK K
              simp only [cw_ret, qseq_ret, qblock_ret, retQ_ret]
              obtain rfl := Option.some.inj hm0
              exact done_t (by simp only [go_sem, List.length_append, List.map_append]) (frz_v _)
            · rw [if_f hc35] at hm0
              simp only [cw_skip, qblock_normal, qseq_normal]
              refine hK34 _ _ ?_
              refine cw_reg_seq fun K hK => ?_
              simp only [go_sem]
              refine hK _ _ ?_
              clear hK K
              simp only [cw_ret, qseq_ret, qblock_ret, retQ_ret]
              obtain rfl := Option.some.inj hm0
              exact done_t (by simp only [go_sem, List.length_append, List.map_append]) (frz_v _)
        simp only [cw_block]
        obtain ⟨b36, hl36, hm0⟩ := bind_get hm0
        refine cw_loopM hl36 (fun | (held_4, x_53), t, h => ∃ i4 : Nat, t 1 = .fp [I c.Hazards, .fs 1 (List.map eI c.Switches), .fs 2 (List.map eWire c.Wires)] 0 ∧ t 4 = .rs i4 0 (List.length held_4) ∧ t 51 = .fs 2 (List.map eWire c.Wires) ∧ t 52 = I (List.length c.Wires : Int) ∧ t 53 = I x_53 ∧ h.ob i4 = some (1, List.map eI held_4) ∧ i4 < h.nx) ?_ ?_
        · exact ⟨h.nx, s1, (by first | rfl | simp only [go_sem, List.length_append, List.map_append]), (by first | rfl | simp only [go_sem, List.length_append, List.map_append]), (by first | rfl | simp only [go_sem, List.length_append, List.map_append]), (by first | rfl | simp only [go_sem, List.length_append, List.map_append]), (by simp only [go_sem, List.length_append, List.map_append]), (by simp only [go_sem])⟩
        · rintro ⟨held_4, x_53⟩ o t h ⟨i4, s1, s4, s51, s52, s53, ob_o4, lt_o4⟩ hm1 hb36
          simp only [circuit_Check_L24] at hm1
          rw [x_circuit_Check_L24]
          refine cw_reg_seq fun K hK => ?_
          simp only [go_sem, s52, s53, lt_o4]
          refine hK _ _ ?_
          clear hK K
          refine cw_seq_k fun K37 hK37 => ?_
          simp only [go_sem]
          refine ibr_intro (fun hc38 => ?_) (fun hc38 => ?_)
          · rw [if_t hc38] at hm1
            simp only [cw_skip, qblock_normal, qseq_normal]
            refine hK37 _ _ ?_
            refine cw_seq_k fun K39 hK39 => ?_
            have J40 : ∀ (held_4_1 : List Int) (t : Slots) (h : Heap), t 1 = .fp [I c.Hazards, .fs 1 (List.map eI c.Switches), .fs 2 (List.map eWire c.Wires)] 0 → t 4 = .rs i4 0 (List.length held_4_1) → t 51 = .fs 2 (List.map eWire c.Wires) → t 52 = I (List.length c.Wires : Int) → t 53 = I x_53 → h.ob i4 = some (1, List.map eI held_4_1) → i4 < h.nx → circuit_Check_j40 x_53 held_4_1 = some o → K39 t h := by
              intro held_4_1 t h s1 s4 s51 s52 s53 ob_o4 lt_o4 hm1
              refine hK39 _ _ ?_
              unfold circuit_Check_j40 at hm1
              refine cw_reg_k fun K hK => ?_
              simp only [go_sem, s53, lt_o4]
              refine hK _ _ ?_
              clear hK K
              simp only [qblock_normal, qseq_normal]
              obtain rfl := Option.some.inj hm1
              refine ⟨_, rfl, ?_⟩
              exact ⟨i4, s1, (by first | exact s4 | simp only [go_sem, s4, List.length_append, List.map_append]), s51, s52, (by first | rfl | exact s53 | simp only [go_sem, s53, List.length_append, List.map_append]), ob_o4, lt_o4⟩
            simp only [cw_block]
            obtain ⟨x42, h_x42, hm1⟩ := bind_get hm1
            have h_x420 := get_nn h_x42
            have h_x421 := get_lt h_x42
            refine cw_reg_seq fun K hK => ?_
            simp only [go_sem, s51, s53, lt_o4, ielem_get h_x42, irow_get h_x42, h_x420, h_x421]
            refine hK _ _ ?_
            clear hK K
            refine cw_reg_seq fun K hK => ?_
            simp only [go_sem, lt_o4]
            refine hK _ _ ?_
            clear hK K
            simp only [cw_block]
            refine cw_reg_seq fun K hK => ?_
            simp only [go_sem, lt_o4]
            refine hK _ _ ?_
            clear hK K
            simp only [go_sem]
            refine ibr_intro (fun hc43 => ?_) (fun hc43 => ?_)
            · rw [if_t hc43] at hm1
              obtain ⟨c47, h_c47, hm1⟩ := bind_get hm1
              refine cw_reg_postK (fun t h => t 1 = .fp [I c.Hazards, .fs 1 (List.map eI c.Switches), .fs 2 (List.map eWire c.Wires)] 0 ∧ t 4 = .rs i4 0 (List.length held_4) ∧ t 51 = .fs 2 (List.map eWire c.Wires) ∧ t 52 = I (List.length c.Wires : Int) ∧ t 53 = I x_53 ∧ t 74 = B c47 ∧ h.ob i4 = some (1, List.map eI held_4) ∧ i4 < h.nx) (fun K hK => ?_) ?_
              · simp only [go_sem, s1, lt_o4]
                refine ibr_intro (fun hg48 => ?_) (fun hg48 => ?_)
                · simp only [hg48, Bool.not_true, Bool.not_false, eq_self, if_true, if_false, Bool.true_or, Bool.or_true, Bool.false_or, Bool.or_false, Bool.true_and, Bool.and_true, Bool.false_and, Bool.and_false, Bool.false_eq_true] at h_c47
                  obtain rfl := Option.some.inj h_c47
                  simp only [go_sem, s1, lt_o4, hg48]
                  exact hK _ _ ⟨s1, (by first | exact s4 | simp only [go_sem, s4, List.length_append, List.map_append]), s51, s52, s53, (by first | rfl | simp only [go_sem, hg48, List.length_append, List.map_append]), (by simp only [go_sem, ob_o4, lt_o4, hg48, List.length_append, List.map_append]), (by simp only [go_sem, lt_o4])⟩
                · simp only [hg48, Bool.not_true, Bool.not_false, eq_self, if_true, if_false, Bool.true_or, Bool.or_true, Bool.false_or, Bool.or_false, Bool.true_and, Bool.and_true, Bool.false_and, Bool.and_false, Bool.false_eq_true] at h_c47
                  obtain ⟨y46, h_y46, h_c47⟩ := bind_get h_c47
                  obtain rfl := Option.some.inj h_c47
                  simp only [go_sem, s1, lt_o4, hg48]
                  refine icall_fn (k_circuit_ascending x42.Of 0 (List.length c.Switches : Int) _ h_y46) ?_
                  simp only [go_sem, s1, lt_o4, hg48]
                  exact hK _ _ ⟨s1, (by first | exact s4 | simp only [go_sem, s4, List.length_append, List.map_append]), s51, s52, s53, (by first | rfl | simp only [go_sem, hg48, List.length_append, List.map_append]), (by simp only [go_sem, ob_o4, lt_o4, hg48, List.length_append, List.map_append]), (by simp only [go_sem, lt_o4])⟩
              · rintro t h ⟨s1, s4, s51, s52, s53, s74, ob_o4, lt_o4⟩
                simp only [go_sem, s74]
                refine ibr_intro (fun hc49 => ?_) (fun hc49 => ?_)
                · rw [if_t hc49] at hm1
                  refine cw_reg_seq fun K hK => ?_
                  simp only [go_sem, lt_o4]
                  refine hK _ _ ?_
                  clear hK K
                  simp only [cw_ret, qseq_ret, qblock_ret, retQ_ret]
                  obtain rfl := Option.some.inj hm1
                  obtain rfl := hb36 _ rfl
                  try dsimp only at hm0
                  obtain rfl := Option.some.inj hm0
                  exact done_t (by simp only [go_sem, ob_o4, lt_o4, List.length_append, List.map_append]) (frz_v _)
                · rw [if_f hc49] at hm1
                  simp only [cw_skip, qblock_normal, qseq_normal]
                  exact J40 held_4 _ _ s1 (by first | exact s4 | simp only [go_sem, s4, List.length_append, List.map_append]) s51 s52 s53 ob_o4 lt_o4 hm1
            · rw [if_f hc43] at hm1
              refine cw_assoc ?_
              refine cw_reg_seq fun K hK => ?_
              simp only [go_sem, lt_o4]
              refine hK _ _ ?_
              clear hK K
              refine cw_seq_k fun K50 hK50 => ?_
              have J51 : ∀ (x_75 : Bool) (i6 : Nat) (t : Slots) (h : Heap), t 1 = .fp [I c.Hazards, .fs 1 (List.map eI c.Switches), .fs 2 (List.map eWire c.Wires)] 0 → t 4 = .rs i4 0 (List.length held_4) → t 5 = I x_53 → t 6 = .rp i6 0 0 → t 51 = .fs 2 (List.map eWire c.Wires) → t 52 = I (List.length c.Wires : Int) → t 53 = I x_53 → t 75 = B x_75 → h.ob i4 = some (1, List.map eI held_4) → i4 < h.nx → h.ob i6 = some (2, [[I x42.Kind, .fs 1 (List.map eI x42.Of)]]) → i6 < h.nx → ¬i4 = i6 → circuit_Check_j51 c held_4 x_53 x42 x_75 = some o → K50 t h := by
                intro x_75 i6 t h s1 s4 s5 s6 s51 s52 s53 s75 ob_o4 lt_o4 ob_o6 lt_o6 ne_o4_o6 hm1
                refine hK50 _ _ ?_
                unfold circuit_Check_j51 at hm1
                simp only [go_sem, s75]
                refine ibr_intro (fun hc52 => ?_) (fun hc52 => ?_)
                · rw [if_t hc52] at hm1
                  refine cw_assoc ?_
                  obtain ⟨c56, h_c56, hm1⟩ := bind_get hm1
                  refine cw_reg_postK (fun t h => t 1 = .fp [I c.Hazards, .fs 1 (List.map eI c.Switches), .fs 2 (List.map eWire c.Wires)] 0 ∧ t 4 = .rs i4 0 (List.length held_4) ∧ t 6 = .rp i6 0 0 ∧ t 51 = .fs 2 (List.map eWire c.Wires) ∧ t 52 = I (List.length c.Wires : Int) ∧ t 53 = I x_53 ∧ t 98 = B c56 ∧ h.ob i4 = some (1, List.map eI held_4) ∧ i4 < h.nx ∧ h.ob i6 = some (2, [[I x42.Kind, .fs 1 (List.map eI x42.Of)]]) ∧ i6 < h.nx ∧ ¬i4 = i6) (fun K hK => ?_) ?_
                  · simp only [go_sem, s1, s5, s6, ob_o6, lt_o6, lt_o4, ne_o4_o6, nsym ne_o4_o6]
                    refine ibr_intro (fun hg57 => ?_) (fun hg57 => ?_)
                    · simp only [hg57, Bool.not_true, Bool.not_false, eq_self, if_true, if_false, Bool.true_or, Bool.or_true, Bool.false_or, Bool.or_false, Bool.true_and, Bool.and_true, Bool.false_and, Bool.and_false, Bool.false_eq_true] at h_c56
                      obtain rfl := Option.some.inj h_c56
                      simp only [go_sem, s1, s5, s6, ob_o6, lt_o6, lt_o4, ne_o4_o6, nsym ne_o4_o6, hg57]
                      exact hK _ _ ⟨s1, (by first | exact s4 | simp only [go_sem, s4, List.length_append, List.map_append]), s6, s51, s52, s53, (by first | rfl | simp only [go_sem, hg57, List.length_append, List.map_append]), ob_o4, lt_o4, ob_o6, lt_o6, (by omega)⟩
                    · simp only [go_sem, s1, s5, s6, ob_o6, lt_o6, lt_o4, ne_o4_o6, nsym ne_o4_o6, hg57]
                      refine ibr_intro (fun hg58 => ?_) (fun hg58 => ?_)
                      · simp only [hg57, hg58, Bool.not_true, Bool.not_false, eq_self, if_true, if_false, Bool.true_or, Bool.or_true, Bool.false_or, Bool.or_false, Bool.true_and, Bool.and_true, Bool.false_and, Bool.and_false, Bool.false_eq_true] at h_c56
                        obtain rfl := Option.some.inj h_c56
                        simp only [go_sem, s1, s5, s6, ob_o6, lt_o6, lt_o4, ne_o4_o6, nsym ne_o4_o6, hg57, hg58]
                        exact hK _ _ ⟨s1, (by first | exact s4 | simp only [go_sem, s4, List.length_append, List.map_append]), s6, s51, s52, s53, (by first | rfl | simp only [go_sem, hg57, hg58, List.length_append, List.map_append]), ob_o4, lt_o4, ob_o6, lt_o6, (by omega)⟩
                      · simp only [hg57, hg58, Bool.not_true, Bool.not_false, eq_self, if_true, if_false, Bool.true_or, Bool.or_true, Bool.false_or, Bool.or_false, Bool.true_and, Bool.and_true, Bool.false_and, Bool.and_false, Bool.false_eq_true] at h_c56
                        obtain ⟨y55, h_y55, h_c56⟩ := bind_get h_c56
                        obtain rfl := Option.some.inj h_c56
                        simp only [go_sem, s1, s5, s6, ob_o6, lt_o6, lt_o4, ne_o4_o6, nsym ne_o4_o6, hg57, hg58]
                        refine icall_fn (k_circuit_ascending x42.Of (wr (x_53 + 1)) (List.length c.Wires : Int) _ h_y55) ?_
                        simp only [go_sem, s1, s5, s6, ob_o6, lt_o6, lt_o4, ne_o4_o6, nsym ne_o4_o6, hg57, hg58]
                        exact hK _ _ ⟨s1, (by first | exact s4 | simp only [go_sem, s4, List.length_append, List.map_append]), s6, s51, s52, s53, (by first | rfl | simp only [go_sem, hg57, hg58, List.length_append, List.map_append]), ob_o4, lt_o4, ob_o6, lt_o6, (by omega)⟩
                  · rintro t h ⟨s1, s4, s6, s51, s52, s53, s98, ob_o4, lt_o4, ob_o6, lt_o6, ne_o4_o6⟩
                    refine cw_seq_k fun K59 hK59 => ?_
                    simp only [go_sem, s98]
                    refine ibr_intro (fun hc60 => ?_) (fun hc60 => ?_)
                    · rw [if_t hc60] at hm1
                      refine cw_reg_seq fun K hK => ?_
                      simp only [go_sem, lt_o4, lt_o6]
                      refine hK _ _ ?_
                      clear hK K
                      simp only [cw_ret, qseq_ret, qblock_ret, retQ_ret]
                      obtain rfl := Option.some.inj hm1
                      obtain rfl := hb36 _ rfl
                      try dsimp only at hm0
                      obtain rfl := Option.some.inj hm0
                      exact done_t (by simp only [go_sem, ob_o4, lt_o4, ob_o6, lt_o6, ne_o4_o6, nsym ne_o4_o6, List.length_append, List.map_append]) (frz_v _)
                    · rw [if_f hc60] at hm1
                      simp only [cw_skip, qblock_normal, qseq_normal]
                      refine hK59 _ _ ?_
                      refine cw_reg_seq fun K hK => ?_
                      simp only [go_sem, s6, ob_o6, lt_o6, lt_o4, ne_o4_o6, nsym ne_o4_o6]
                      refine hK _ _ ?_
                      clear hK K
                      simp only [cw_block]
                      obtain ⟨b61, hl61, hm1⟩ := bind_get hm1
                      refine cw_loopM hl61 (fun | (held_4_1, x_102), t, h => t 1 = .fp [I c.Hazards, .fs 1 (List.map eI c.Switches), .fs 2 (List.map eWire c.Wires)] 0 ∧ t 4 = .rs i4 0 (List.length held_4_1) ∧ t 51 = .fs 2 (List.map eWire c.Wires) ∧ t 52 = I (List.length c.Wires : Int) ∧ t 53 = I x_53 ∧ t 100 = .fs 1 (List.map eI x42.Of) ∧ t 101 = I (List.length x42.Of : Int) ∧ t 102 = I x_102 ∧ h.ob i4 = some (1, List.map eI held_4_1) ∧ i4 < h.nx) ?_ ?_
                      · exact ⟨s1, (by first | exact s4 | simp only [go_sem, s4, List.length_append, List.map_append]), s51, s52, s53, (by first | rfl | simp only [go_sem, List.length_append, List.map_append]), (by first | rfl | simp only [go_sem, List.length_append, List.map_append]), (by first | rfl | simp only [go_sem, List.length_append, List.map_append]), ob_o4, lt_o4⟩
                      · rintro ⟨held_4_1, x_102⟩ o t h ⟨s1, s4, s51, s52, s53, s100, s101, s102, ob_o4, lt_o4⟩ hm2 hb61
                        simp only [circuit_Check_L21] at hm2
                        rw [x_circuit_Check_L21]
                        refine cw_reg_seq fun K hK => ?_
                        simp only [go_sem, s101, s102, lt_o4]
                        refine hK _ _ ?_
                        clear hK K
                        refine cw_seq_k fun K62 hK62 => ?_
                        simp only [go_sem]
                        refine ibr_intro (fun hc63 => ?_) (fun hc63 => ?_)
                        · rw [if_t hc63] at hm2
                          simp only [cw_skip, qblock_normal, qseq_normal]
                          refine hK62 _ _ ?_
                          refine cw_seq_k fun K64 hK64 => ?_
                          simp only [cw_block]
                          obtain ⟨x66, h_x66, hm2⟩ := bind_get hm2
                          have h_x660 := get_nn h_x66
                          have h_x661 := get_lt h_x66
                          refine cw_reg_seq fun K hK => ?_
                          simp only [go_sem, s100, s102, lt_o4, ielem_get h_x66, irow_get h_x66, h_x660, h_x661]
                          refine hK _ _ ?_
                          clear hK K
                          obtain ⟨x68, h_x68, hm2⟩ := bind_get hm2
                          have h_x680 := get_nn h_x68
                          have h_x681 := get_lt h_x68
                          refine cw_reg_k fun K hK => ?_
                          simp only [go_sem, s4, ob_o4, lt_o4, ielem_get h_x68, irow_get h_x68, h_x680, h_x681]
                          refine hK _ _ ?_
                          clear hK K
                          simp only [qblock_normal, qseq_normal]
                          refine hK64 _ _ ?_
                          refine cw_reg_k fun K hK => ?_
                          simp only [go_sem, s102, lt_o4]
                          refine hK _ _ ?_
                          clear hK K
                          simp only [qblock_normal, qseq_normal]
                          obtain rfl := Option.some.inj hm2
                          refine ⟨_, rfl, ?_⟩
                          exact ⟨s1, (by first | exact s4 | simp only [go_sem, s4, List.length_append, List.map_append]), s51, s52, s53, s100, s101, (by first | rfl | exact s102 | simp only [go_sem, s102, List.length_append, List.map_append]), (by simp only [go_sem, ob_o4, lt_o4, List.length_append, List.map_append]), (by simp only [go_sem, lt_o4])⟩
                        · rw [if_f hc63] at hm2
                          simp only [cw_exit, qseq_exit, qblock_same, qblock_ne, qblock_normal, qseq_normal, Nat.reduceEqDiff, not_false_eq_true]
                          obtain rfl := Option.some.inj hm2
                          obtain rfl := hb61 _ rfl
                          try dsimp only at hm1
                          exact J40 held_4_1 _ _ s1 (by first | exact s4 | simp only [go_sem, s4, List.length_append, List.map_append]) s51 s52 s53 ob_o4 lt_o4 hm1
                · rw [if_f hc52] at hm1
                  refine cw_reg_seq fun K hK => ?_
                  simp only [go_sem, lt_o4, lt_o6]
                  refine hK _ _ ?_
                  clear hK K
                  simp only [cw_ret, qseq_ret, qblock_ret, retQ_ret]
                  obtain rfl := Option.some.inj hm1
                  obtain rfl := hb36 _ rfl
                  try dsimp only at hm0
                  obtain rfl := Option.some.inj hm0
                  exact done_t (by simp only [go_sem, ob_o4, lt_o4, ob_o6, lt_o6, ne_o4_o6, nsym ne_o4_o6, List.length_append, List.map_append]) (frz_v _)
              simp only [go_sem]
              refine ibr_intro (fun hc70 => ?_) (fun hc70 => ?_)
              · rw [if_t hc70] at hm1
                simp only [cw_skip, qblock_normal, qseq_normal]
                exact J51 (decide (x42.Kind = 2)) h.nx _ _ s1 (by first | exact s4 | simp only [go_sem, s4, List.length_append, List.map_append]) (by first | rfl | simp only [go_sem, List.length_append, List.map_append]) (by first | rfl | simp only [go_sem, List.length_append, List.map_append]) s51 s52 s53 (by first | rfl | simp only [go_sem, List.length_append, List.map_append]) (by simp only [go_sem, ob_o4, lt_o4, List.length_append, List.map_append]) (by simp only [go_sem, lt_o4]) (by simp only [go_sem, ob_o4, lt_o4, List.length_append, List.map_append]) (by simp only [go_sem, lt_o4]) (by omega) hm1
              · rw [if_f hc70] at hm1
                refine cw_reg_k fun K hK => ?_
                simp only [go_sem, lt_o4]
                refine hK _ _ ?_
                clear hK K
                simp only [qblock_normal, qseq_normal]
                exact J51 (decide (x42.Kind = 3)) h.nx _ _ s1 (by first | exact s4 | simp only [go_sem, s4, List.length_append, List.map_append]) (by first | rfl | simp only [go_sem, List.length_append, List.map_append]) (by first | rfl | simp only [go_sem, List.length_append, List.map_append]) s51 s52 s53 (by first | rfl | simp only [go_sem, List.length_append, List.map_append]) (by simp only [go_sem, ob_o4, lt_o4, List.length_append, List.map_append]) (by simp only [go_sem, lt_o4]) (by simp only [go_sem, ob_o4, lt_o4, List.length_append, List.map_append]) (by simp only [go_sem, lt_o4]) (by omega) hm1
          · rw [if_f hc38] at hm1
            simp only [cw_exit, qseq_exit, qblock_same, qblock_ne, qblock_normal, qseq_normal, Nat.reduceEqDiff, not_false_eq_true]
            obtain rfl := Option.some.inj hm1
            obtain rfl := hb36 _ rfl
            try dsimp only at hm0
            exact J22 held_4 i4 _ _ (by first | exact s4 | simp only [go_sem, s4, List.length_append, List.map_append]) ob_o4 lt_o4 hm0

end Go.Nw.DM

namespace Go.Nw.DM
open Go.Nw.Door
set_option linter.unusedSimpArgs false
set_option linter.unusedVariables false
variable {O : Orac}

theorem k_circuit_CheckD1 (hf : Has O "newel/circuit.Check$1" x_circuit_CheckD1) (k_circuit_isSet : C_circuit_isSet O) : C_circuit_CheckD1 O := by
  intro n c0 r hm0
  unfold circuit_CheckD1 at hm0
  refine fn_cw hf rfl (fz_cons (frz_v _) (fz_cons (.fp _ _ (fz_cons (frz_v _) (fz_cons (frz_fs fun a _ => fz_eI a) (fz_cons (frz_fs fun a _ => fz_eWire a) fz_nil)))) fz_nil)) (frz_v _) ?_
  refine cw_start (fun t h => t 0 = I n ∧ t 1 = .fp [I c0.Hazards, .fs 1 (List.map eI c0.Switches), .fs 2 (List.map eWire c0.Wires)] 0) ⟨rfl, rfl⟩ fun t h ⟨s0, s1⟩ => ?_
  simp only [x_circuit_CheckD1]
  refine cw_reg_seq fun K hK => ?_
  simp only [go_sem]
  refine hK _ _ ?_
  clear hK K
  obtain ⟨y2, h_y2, hm0⟩ := bind_get hm0
  refine cw_reg_seq fun K hK => ?_
  simp only [go_sem, s0, s1]
  refine icall_fn (k_circuit_isSet n c0.Hazards _ h_y2) ?_
  simp only [go_sem, s0, s1]
  refine hK _ _ ?_
  clear hK K
  simp only [cw_ret, qseq_ret, qblock_ret, retQ_ret]
  obtain rfl := Option.some.inj hm0
  exact done_t (by simp only [go_sem, List.length_append, List.map_append]) (frz_v _)

end Go.Nw.DM

namespace Go.Nw.DM
open Go.Nw.Door
set_option linter.unusedSimpArgs false
set_option linter.unusedVariables false
variable {O : Orac}

theorem k_circuit_CheckD2 (hf : Has O "newel/circuit.Check$2" x_circuit_CheckD2) : C_circuit_CheckD2 O := by
  intro n
  generalize hm0 : circuit_CheckD2 n = r
  unfold circuit_CheckD2 at hm0
  refine fn_cw hf rfl (fz_cons (frz_v _) fz_nil) (frz_v _) ?_
  refine cw_start (fun t h => t 0 = I n) rfl fun t h s0 => ?_
  simp only [x_circuit_CheckD2]
  refine cw_reg_seq fun K hK => ?_
  simp only [go_sem]
  refine hK _ _ ?_
  clear hK K
  refine cw_reg_seq fun K hK => ?_
  simp only [go_sem, s0]
  refine hK _ _ ?_
  clear hK K
  simp only [cw_ret, qseq_ret, qblock_ret, retQ_ret]
  obtain rfl := hm0
  exact done_t (by simp only [go_sem, List.length_append, List.map_append]) (frz_v _)

end Go.Nw.DM

namespace Go.Nw.DM
open Go.Nw.Door
set_option linter.unusedSimpArgs false
set_option linter.unusedVariables false
variable {O : Orac}

theorem k_circuit_CheckRota (hf : Has O "newel/circuit.CheckRota" x_circuit_CheckRota) (k_circuit_checkRota : C_circuit_checkRota O) (k_circuit_all : C_circuit_all O) (k_circuit_gap : C_circuit_gap O) : C_circuit_CheckRota O := by
  intro c l r_ r hm0
  unfold circuit_CheckRota at hm0
  refine fn_cw hf rfl (fz_cons (.agg _ (fz_cons (frz_v _) (fz_cons (frz_fs fun a _ => fz_eI a) (fz_cons (frz_fs fun a _ => fz_eWire a) fz_nil)))) (fz_cons (frz_fs fun a _ => fz_eTrial a) (fz_cons (.agg _ (fz_cons (frz_fs fun a _ => fz_eL_I a) (fz_cons (frz_v _) fz_nil))) fz_nil))) (.tup _ (fz_cons (frz_v _) (fz_cons (frz_v _) (fz_cons (frz_v _) (fz_cons (frz_v _) fz_nil))))) ?_
  refine cw_start (fun t h => t 0 = .agg [I c.Hazards, .fs 1 (List.map eI c.Switches), .fs 2 (List.map eWire c.Wires)] ∧ t 1 = .fs 2 (List.map eTrial l) ∧ t 2 = .agg [.fs 1 (List.map eL_I r_.Nights), I r_.Gap]) ⟨rfl, rfl, rfl⟩ fun t h ⟨s0, s1, s2⟩ => ?_
  simp only [x_circuit_CheckRota]
  refine cw_reg_seq fun K hK => ?_
  simp only [go_sem, s0, s2]
  refine hK _ _ ?_
  clear hK K
  refine cw_assoc ?_
  obtain ⟨y2, h_y2, hm0⟩ := bind_get hm0
  refine cw_reg_seq fun K hK => ?_
  simp only [go_sem, s1]
  refine icall_fn (k_circuit_checkRota c l r_ _ h_y2) ?_
  simp only [go_sem, s1]
  refine hK _ _ ?_
  clear hK K
  refine cw_assoc ?_
  refine cw_reg_seq fun K hK => ?_
  simp only [go_sem]
  refine hK _ _ ?_
  clear hK K
  refine cw_seq_k fun K3 hK3 => ?_
  simp only [go_sem]
  refine ibr_intro (fun hc4 => ?_) (fun hc4 => ?_)
  · rw [if_t hc4] at hm0
    refine cw_reg_seq fun K hK => ?_
    simp only [go_sem]
    refine hK _ _ ?_
    clear hK K
    simp only [cw_ret, qseq_ret, qblock_ret, retQ_ret]
    obtain rfl := Option.some.inj hm0
    exact done_t4 (by simp only [go_sem, List.length_append, List.map_append]) (by simp only [go_sem, List.length_append, List.map_append]) (by simp only [go_sem, List.length_append, List.map_append]) (by simp only [go_sem, List.length_append, List.map_append]) (frz_v _) (frz_v _) (frz_v _) (frz_v _)
  · rw [if_f hc4] at hm0
    simp only [cw_skip, qblock_normal, qseq_normal]
    refine hK3 _ _ ?_
    obtain ⟨y6, h_y6, hm0⟩ := bind_get hm0
    refine cw_reg_seq fun K hK => ?_
    simp only [go_sem, s1]
    refine icall_fn (k_circuit_all c l _ h_y6) ?_
    simp only [go_sem, s1]
    refine hK _ _ ?_
    clear hK K
    obtain ⟨l8, h_l8, hm0⟩ := bind_get hm0
    refine cw_reg_seq fun K hK => ?_
    simp only [go_sem]
    refine imksl_ok (f := eI) (z := 0) rfl h_l8 ?_
    simp only [go_sem]
    refine hK _ _ ?_
    clear hK K
    refine cw_assoc ?_
    refine cw_reg_seq fun K hK => ?_
    simp only [go_sem]
    refine hK _ _ ?_
    clear hK K
    refine cw_seq_k fun K9 hK9 => ?_
    have J10 : ∀ (nights_12 : List Int) (i12 : Nat) (t : Slots) (h : Heap), t 3 = .fp [I c.Hazards, .fs 1 (List.map eI c.Switches), .fs 2 (List.map eWire c.Wires)] 0 → t 5 = .fp [.fs 1 (List.map eL_I r_.Nights), I r_.Gap] 0 → t 12 = .rs i12 0 (List.length nights_12) → h.ob i12 = some (1, List.map eI nights_12) → i12 < h.nx → circuit_CheckRota_j10 c r_ nights_12 = some r → K9 t h := by
      intro nights_12 i12 t h s3 s5 s12 ob_o12 lt_o12 hm0
      refine hK9 _ _ ?_
      unfold circuit_CheckRota_j10 at hm0
      obtain ⟨y12, h_y12, hm0⟩ := bind_get hm0
      refine cw_reg_seq fun K hK => ?_
      simp only [go_sem, s3, s5, s12, ob_o12, lt_o12]
      refine icall_fz ?_ (k_circuit_gap (List.length c.Switches : Int) r_.Gap nights_12 _ h_y12) (.tup _ (ow_cons (.v _) (ow_cons (.v _) (ow_cons (.v _) ow_nil)))) ?_
      · exact .cons (.refl _ (frz_v _)) (.cons (.refl _ (frz_v _)) (.cons (fz_rs (f := eI) (l := nights_12) (by simp only [go_sem, ob_o12, lt_o12, List.length_append, List.map_append]) (by first | rfl | simp only [go_sem, List.length_append, List.map_append]) fz_eI ln_eI) (.nil)))
      simp only [go_sem, s3, s5, s12, ob_o12, lt_o12]
      refine hK _ _ ?_
      clear hK K
      refine cw_reg_seq fun K hK => ?_
      simp only [go_sem, lt_o12]
      refine hK _ _ ?_
      clear hK K
      simp only [cw_ret, qseq_ret, qblock_ret, retQ_ret]
      obtain rfl := Option.some.inj hm0
      exact done_t4 (by simp only [go_sem, ob_o12, lt_o12, List.length_append, List.map_append]) (by simp only [go_sem, ob_o12, lt_o12, List.length_append, List.map_append]) (by simp only [go_sem, ob_o12, lt_o12, List.length_append, List.map_append]) (by simp only [go_sem, ob_o12, lt_o12, List.length_append, List.map_append]) (frz_v _) (frz_v _) (frz_v _) (frz_v _)
    simp only [cw_block]
    obtain ⟨b13, hl13, hm0⟩ := bind_get hm0
    refine cw_loopM hl13 (fun | (nights_12, x_37), t, h => ∃ i12 : Nat, t 3 = .fp [I c.Hazards, .fs 1 (List.map eI c.Switches), .fs 2 (List.map eWire c.Wires)] 0 ∧ t 5 = .fp [.fs 1 (List.map eL_I r_.Nights), I r_.Gap] 0 ∧ t 10 = .fs 1 (List.map eI y6.1) ∧ t 12 = .rs i12 0 (List.length nights_12) ∧ t 35 = .fs 1 (List.map eL_I r_.Nights) ∧ t 36 = I (List.length r_.Nights : Int) ∧ t 37 = I x_37 ∧ h.ob i12 = some (1, List.map eI nights_12) ∧ i12 < h.nx) ?_ ?_
    · exact ⟨h.nx, (by first | rfl | simp only [go_sem, List.length_append, List.map_append]), (by first | rfl | simp only [go_sem, List.length_append, List.map_append]), (by first | rfl | simp only [go_sem, List.length_append, List.map_append]), (by first | rfl | simp only [go_sem, List.length_append, List.map_append]), (by first | rfl | simp only [go_sem, List.length_append, List.map_append]), (by first | rfl | simp only [go_sem, List.length_append, List.map_append]), (by first | rfl | simp only [go_sem, List.length_append, List.map_append]), (by simp only [go_sem, List.length_append, List.map_append]), (by simp only [go_sem])⟩
    · rintro ⟨nights_12, x_37⟩ o t h ⟨i12, s3, s5, s10, s12, s35, s36, s37, ob_o12, lt_o12⟩ hm1 hb13
      simp only [circuit_CheckRota_L16] at hm1
      rw [x_circuit_CheckRota_L16]
      refine cw_reg_seq fun K hK => ?_
      simp only [go_sem, s36, s37, lt_o12]
      refine hK _ _ ?_
      clear hK K
      refine cw_seq_k fun K14 hK14 => ?_
      simp only [go_sem]
      refine ibr_intro (fun hc15 => ?_) (fun hc15 => ?_)
      · rw [if_t hc15] at hm1
        simp only [cw_skip, qblock_normal, qseq_normal]
        refine hK14 _ _ ?_
        refine cw_seq_k fun K16 hK16 => ?_
        have J17 : ∀ (nights_12_1 : List Int) (t : Slots) (h : Heap), t 3 = .fp [I c.Hazards, .fs 1 (List.map eI c.Switches), .fs 2 (List.map eWire c.Wires)] 0 → t 5 = .fp [.fs 1 (List.map eL_I r_.Nights), I r_.Gap] 0 → t 10 = .fs 1 (List.map eI y6.1) → t 12 = .rs i12 0 (List.length nights_12_1) → t 35 = .fs 1 (List.map eL_I r_.Nights) → t 36 = I (List.length r_.Nights : Int) → t 37 = I x_37 → h.ob i12 = some (1, List.map eI nights_12_1) → i12 < h.nx → circuit_CheckRota_j17 x_37 nights_12_1 = some o → K16 t h := by
          intro nights_12_1 t h s3 s5 s10 s12 s35 s36 s37 ob_o12 lt_o12 hm1
          refine hK16 _ _ ?_
          unfold circuit_CheckRota_j17 at hm1
          refine cw_reg_k fun K hK => ?_
          simp only [go_sem, s37, lt_o12]
          refine hK _ _ ?_
          clear hK K
          simp only [qblock_normal, qseq_normal]
          obtain rfl := Option.some.inj hm1
          refine ⟨_, rfl, ?_⟩
          exact ⟨i12, s3, s5, s10, (by first | exact s12 | simp only [go_sem, s12, List.length_append, List.map_append]), s35, s36, (by first | rfl | exact s37 | simp only [go_sem, s37, List.length_append, List.map_append]), ob_o12, lt_o12⟩
        simp only [cw_block]
        obtain ⟨x19, h_x19, hm1⟩ := bind_get hm1
        have h_x190 := get_nn h_x19
        have h_x191 := get_lt h_x19
        refine cw_reg_seq fun K hK => ?_
        simp only [go_sem, s35, s37, lt_o12, ielem_get h_x19, irow_get h_x19, h_x190, h_x191]
        refine hK _ _ ?_
        clear hK K
        refine cw_reg_seq fun K hK => ?_
        simp only [go_sem, lt_o12]
        refine hK _ _ ?_
        clear hK K
        simp only [cw_block]
        obtain ⟨b20, hl20, hm1⟩ := bind_get hm1
        refine cw_loopM hl20 (fun | (nights_12_1, x_44), t, h => t 3 = .fp [I c.Hazards, .fs 1 (List.map eI c.Switches), .fs 2 (List.map eWire c.Wires)] 0 ∧ t 5 = .fp [.fs 1 (List.map eL_I r_.Nights), I r_.Gap] 0 ∧ t 10 = .fs 1 (List.map eI y6.1) ∧ t 12 = .rs i12 0 (List.length nights_12_1) ∧ t 13 = I x_37 ∧ t 35 = .fs 1 (List.map eL_I r_.Nights) ∧ t 36 = I (List.length r_.Nights : Int) ∧ t 37 = I x_37 ∧ t 42 = .fs 1 (List.map eI x19) ∧ t 43 = I (List.length x19 : Int) ∧ t 44 = I x_44 ∧ h.ob i12 = some (1, List.map eI nights_12_1) ∧ i12 < h.nx) ?_ ?_
        · exact ⟨s3, s5, s10, (by first | exact s12 | simp only [go_sem, s12, List.length_append, List.map_append]), (by first | rfl | simp only [go_sem, List.length_append, List.map_append]), s35, s36, s37, (by first | rfl | simp only [go_sem, List.length_append, List.map_append]), (by first | rfl | simp only [go_sem, List.length_append, List.map_append]), (by first | rfl | simp only [go_sem, List.length_append, List.map_append]), ob_o12, lt_o12⟩
        · rintro ⟨nights_12_1, x_44⟩ o t h ⟨s3, s5, s10, s12, s13, s35, s36, s37, s42, s43, s44, ob_o12, lt_o12⟩ hm2 hb20
          simp only [circuit_CheckRota_L14] at hm2
          rw [x_circuit_CheckRota_L14]
          refine cw_reg_seq fun K hK => ?_
          simp only [go_sem, s43, s44, lt_o12]
          refine hK _ _ ?_
          clear hK K
          refine cw_seq_k fun K21 hK21 => ?_
          simp only [go_sem]
          refine ibr_intro (fun hc22 => ?_) (fun hc22 => ?_)
          · rw [if_t hc22] at hm2
            simp only [cw_skip, qblock_normal, qseq_normal]
            refine hK21 _ _ ?_
            refine cw_seq_k fun K23 hK23 => ?_
            simp only [cw_block]
            obtain ⟨x25, h_x25, hm2⟩ := bind_get hm2
            have h_x250 := get_nn h_x25
            have h_x251 := get_lt h_x25
            refine cw_reg_seq fun K hK => ?_
            simp only [go_sem, s42, s44, lt_o12, ielem_get h_x25, irow_get h_x25, h_x250, h_x251]
            refine hK _ _ ?_
            clear hK K
            obtain ⟨x28, h_x28, hm2⟩ := bind_get hm2
            have h_x280 := get_nn h_x28
            have h_x281 := get_lt h_x28
            obtain ⟨x29, h_x29, hm2⟩ := bind_get hm2
            have h_x290 := get_nn h_x29
            have h_x291 := get_lt h_x29
            refine cw_reg_k fun K hK => ?_
            simp only [go_sem, s10, s12, s13, ob_o12, lt_o12, ielem_get h_x28, irow_get h_x28, h_x280, h_x281, ielem_get h_x29, irow_get h_x29, h_x290, h_x291]
            refine hK _ _ ?_
            clear hK K
            simp only [qblock_normal, qseq_normal]
            refine hK23 _ _ ?_
            refine cw_reg_k fun K hK => ?_
            simp only [go_sem, s44, lt_o12]
            refine hK _ _ ?_
            clear hK K
            simp only [qblock_normal, qseq_normal]
            obtain rfl := Option.some.inj hm2
            refine ⟨_, rfl, ?_⟩
            exact ⟨s3, s5, s10, (by first | exact s12 | simp only [go_sem, s12, List.length_append, List.map_append]), s13, s35, s36, s37, s42, s43, (by first | rfl | exact s44 | simp only [go_sem, s44, List.length_append, List.map_append]), (by simp only [go_sem, ob_o12, lt_o12, List.length_append, List.map_append]), (by simp only [go_sem, lt_o12])⟩
          · rw [if_f hc22] at hm2
            simp only [cw_exit, qseq_exit, qblock_same, qblock_ne, qblock_normal, qseq_normal, Nat.reduceEqDiff, not_false_eq_true]
            obtain rfl := Option.some.inj hm2
            obtain rfl := hb20 _ rfl
            try dsimp only at hm1
            exact J17 nights_12_1 _ _ s3 s5 s10 (by first | exact s12 | simp only [go_sem, s12, List.length_append, List.map_append]) s35 s36 s37 ob_o12 lt_o12 hm1
      · rw [if_f hc15] at hm1
        simp only [cw_exit, qseq_exit, qblock_same, qblock_ne, qblock_normal, qseq_normal, Nat.reduceEqDiff, not_false_eq_true]
        obtain rfl := Option.some.inj hm1
        obtain rfl := hb13 _ rfl
        try dsimp only at hm0
        exact J10 nights_12 i12 _ _ s3 s5 (by first | exact s12 | simp only [go_sem, s12, List.length_append, List.map_append]) ob_o12 lt_o12 hm0

end Go.Nw.DM

namespace Go.Nw.DM
open Go.Nw.Door
set_option linter.unusedSimpArgs false
set_option linter.unusedVariables false
variable {O : Orac}

theorem k_circuit_Critical (hf : Has O "newel/circuit.Critical" x_circuit_Critical) (k_circuit_Check : C_circuit_Check O) (k_circuit_weak : C_circuit_weak O) : C_circuit_Critical O := by
  intro c r hm0
  unfold circuit_Critical at hm0
  refine fn_cw hf rfl (fz_cons (.agg _ (fz_cons (frz_v _) (fz_cons (frz_fs fun a _ => fz_eI a) (fz_cons (frz_fs fun a _ => fz_eWire a) fz_nil)))) fz_nil) (.tup _ (fz_cons (frz_fs fun a _ => fz_eI a) (fz_cons (frz_v _) fz_nil))) ?_
  refine cw_start (fun t h => t 0 = .agg [I c.Hazards, .fs 1 (List.map eI c.Switches), .fs 2 (List.map eWire c.Wires)]) rfl fun t h s0 => ?_
  simp only [x_circuit_Critical]
  refine cw_reg_seq fun K hK => ?_
  simp only [go_sem, s0]
  refine hK _ _ ?_
  clear hK K
  refine cw_assoc ?_
  obtain ⟨y2, h_y2, hm0⟩ := bind_get hm0
  refine cw_reg_seq fun K hK => ?_
  simp only [go_sem]
  refine icall_fn (k_circuit_Check c _ h_y2) ?_
  simp only [go_sem]
  refine hK _ _ ?_
  clear hK K
  refine cw_assoc ?_
  refine cw_reg_seq fun K hK => ?_
  simp only [go_sem]
  refine hK _ _ ?_
  clear hK K
  refine cw_seq_k fun K3 hK3 => ?_
  simp only [go_sem]
  refine ibr_intro (fun hc4 => ?_) (fun hc4 => ?_)
  · rw [if_t hc4] at hm0
    refine cw_reg_seq fun K hK => ?_
    simp only [go_sem]
    refine hK _ _ ?_
    clear hK K
    simp only [cw_ret, qseq_ret, qblock_ret, retQ_ret]
    obtain rfl := Option.some.inj hm0
    exact done_fz2 (v := .v (.slice none 0 0)) (u := I y2) (by simp only [go_sem, List.length_append, List.map_append]) (by simp only [go_sem, List.length_append, List.map_append]) (.nil _) (.refl _ (frz_v _))
  · rw [if_f hc4] at hm0
    simp only [cw_skip, qblock_normal, qseq_normal]
    refine hK3 _ _ ?_
    refine cw_reg_seq fun K hK => ?_
    simp only [go_sem]
    refine hK _ _ ?_
    clear hK K
    refine cw_assoc ?_
    refine cw_reg_seq fun K hK => ?_
    simp only [go_sem]
    refine hK _ _ ?_
    clear hK K
    refine cw_seq_k fun K5 hK5 => ?_
    have J6 : ∀ (out_5 : List Int) (v5 : AV) (t : Slots) (h : Heap), t 5 = v5 → OwnS h v5 1 (List.map eI out_5) → circuit_Critical_j6 out_5 = some r → K5 t h := by
      intro out_5 v5 t h s5 ow_o5 hm0
      refine hK5 _ _ ?_
      unfold circuit_Critical_j6 at hm0
      refine cw_reg_seq fun K hK => ?_
      simp only [go_sem, s5, istr_of v5]
      refine hK _ _ ?_
      clear hK K
      simp only [cw_ret, qseq_ret, qblock_ret, retQ_ret]
      obtain rfl := Option.some.inj hm0
      exact done_fz2 (v := v5) (u := I 0) (by simp only [go_sem, List.length_append, List.map_append]) (by simp only [go_sem, List.length_append, List.map_append]) (fz_own (f := eI) (l := out_5) (own_later ow_o5 (by intro j hj hl; first | rfl | simp only [go_sem, hl]) (by first | omega | (simp only [go_sem, nxs]; omega))) fz_eI ln_eI) (.refl _ (frz_v _))
    simp only [cw_block]
    obtain ⟨b7, hl7, hm0⟩ := bind_get hm0
    refine cw_loopM hl7 (fun | (out_5, x_15), t, h => ∃ v5 : AV, t 1 = .fp [I c.Hazards, .fs 1 (List.map eI c.Switches), .fs 2 (List.map eWire c.Wires)] 0 ∧ t 5 = v5 ∧ t 14 = I (List.length c.Switches : Int) ∧ t 15 = I x_15 ∧ OwnS h v5 1 (List.map eI out_5)) ?_ ?_
    · exact ⟨(.v (.slice none 0 0)), (by first | rfl | simp only [go_sem, List.length_append, List.map_append]), (by first | rfl | simp only [go_sem, List.length_append, List.map_append]), (by first | rfl | simp only [go_sem, List.length_append, List.map_append]), (by first | rfl | simp only [go_sem, List.length_append, List.map_append]), own_nil'⟩
    · rintro ⟨out_5, x_15⟩ o t h ⟨v5, s1, s5, s14, s15, ow_o5⟩ hm1 hb7
      simp only [circuit_Critical_L11] at hm1
      rw [x_circuit_Critical_L11]
      refine cw_reg_seq fun K hK => ?_
      simp only [go_sem, s14, s15, istr_of v5]
      refine hK _ _ ?_
      clear hK K
      refine cw_seq_k fun K8 hK8 => ?_
      simp only [go_sem]
      refine ibr_intro (fun hc9 => ?_) (fun hc9 => ?_)
      · rw [if_t hc9] at hm1
        simp only [cw_skip, qblock_normal, qseq_normal]
        refine hK8 _ _ ?_
        refine cw_seq_k fun K10 hK10 => ?_
        have J11 : ∀ (out_5_1 : List Int) (v5_1 : AV) (t : Slots) (h : Heap), t 1 = .fp [I c.Hazards, .fs 1 (List.map eI c.Switches), .fs 2 (List.map eWire c.Wires)] 0 → t 5 = v5_1 → t 14 = I (List.length c.Switches : Int) → t 15 = I x_15 → OwnS h v5_1 1 (List.map eI out_5_1) → circuit_Critical_j11 x_15 out_5_1 = some o → K10 t h := by
          intro out_5_1 v5_1 t h s1 s5 s14 s15 ow_o5 hm1
          refine hK10 _ _ ?_
          unfold circuit_Critical_j11 at hm1
          refine cw_reg_k fun K hK => ?_
          simp only [go_sem, s15, istr_of v5, istr_of v5_1]
          refine hK _ _ ?_
          clear hK K
          simp only [qblock_normal, qseq_normal]
          obtain rfl := Option.some.inj hm1
          refine ⟨_, rfl, ?_⟩
          exact ⟨v5_1, s1, s5, s14, (by first | rfl | exact s15 | simp only [go_sem, s15, List.length_append, List.map_append]), ow_o5⟩
        simp only [cw_block]
        refine cw_reg_seq fun K hK => ?_
        simp only [go_sem, s15, istr_of v5]
        refine hK _ _ ?_
        clear hK K
        obtain ⟨q14, h_q14, hm1⟩ := bind_get hm1
        obtain ⟨y15, h_y15, hm1⟩ := bind_get hm1
        refine cw_reg_seq fun K hK => ?_
        simp only [go_sem, s1, ibin_shl h_q14, istr_of v5]
        refine icall_fn (k_circuit_weak c q14 _ h_y15) ?_
        simp only [go_sem, s1, ibin_shl h_q14, istr_of v5]
        refine hK _ _ ?_
        clear hK K
        simp only [go_sem]
        refine ibr_intro (fun hc16 => ?_) (fun hc16 => ?_)
        · rw [if_t hc16] at hm1
          obtain ⟨l18, h_l18, hm1⟩ := bind_get hm1
          refine cw_reg_k fun K hK => ?_
          simp only [go_sem, s5, istr_of v5]
          refine iapp_own (f := eI) (l := out_5) (m := ([x_15])) ?_ ?_ ?_ ?_ h_l18 ?_
          · exact (own_later ow_o5 (by intro j hj hl; first | rfl | simp only [go_sem, hl]) (by first | omega | (simp only [go_sem, nxs]; omega)))
          · exact (ownx_rs (by simp only [go_sem, List.length_append, List.map_append]) (by simp only [go_sem, List.length_append, List.map_append]))
          · exact (nd_rs (by first | exact notid_nil | exact notid_rs (by first | omega | (simp only [nxs]; omega)) | assumption | exact own_notid (by assumption) (by first | omega | (simp only [go_sem, nxs]; omega))))
          · exact (fun _ => by simp)
          simp only [go_sem, s5, istr_of v5]
          refine hK _ _ ?_
          clear hK K
          simp only [qblock_normal, qseq_normal]
          exact J11 l18 (.rs (nxs h.nx) 0 (List.length l18)) _ _ s1 (by first | rfl | exact s5 | simp only [go_sem, s5, List.length_append, List.map_append]) s14 s15 (own_rs (by simp only [go_sem, List.length_append, List.map_append]) (by simp only [go_sem, List.length_append, List.map_append]) (by simp only [go_sem])) hm1
        · rw [if_f hc16] at hm1
          simp only [cw_skip, qblock_normal, qseq_normal]
          exact J11 out_5 v5 _ _ s1 s5 s14 s15 ow_o5 hm1
      · rw [if_f hc9] at hm1
        simp only [cw_exit, qseq_exit, qblock_same, qblock_ne, qblock_normal, qseq_normal, Nat.reduceEqDiff, not_false_eq_true]
        obtain rfl := Option.some.inj hm1
        obtain rfl := hb7 _ rfl
        try dsimp only at hm0
        exact J6 out_5 v5 _ _ s5 ow_o5 hm0

end Go.Nw.DM

namespace Go.Nw.DM
open Go.Nw.Door
set_option linter.unusedSimpArgs false
set_option linter.unusedVariables false
variable {O : Orac}

theorem k_circuit_Fewest (hf : Has O "newel/circuit.Fewest" x_circuit_Fewest) (k_circuit_check : C_circuit_check O) (k_circuit_all : C_circuit_all O) (k_circuit_elements : C_circuit_elements O) (k_slices_Compare___int_int_ : C_slices_Compare___int_int_ O) : C_circuit_Fewest O := by
  intro c l r hm0
  unfold circuit_Fewest at hm0
  refine fn_cw hf rfl (fz_cons (.agg _ (fz_cons (frz_v _) (fz_cons (frz_fs fun a _ => fz_eI a) (fz_cons (frz_fs fun a _ => fz_eWire a) fz_nil)))) (fz_cons (frz_fs fun a _ => fz_eTrial a) fz_nil)) (.tup _ (fz_cons (frz_fs fun a _ => fz_eI a) (fz_cons (frz_v _) fz_nil))) ?_
  refine cw_start (fun t h => t 0 = .agg [I c.Hazards, .fs 1 (List.map eI c.Switches), .fs 2 (List.map eWire c.Wires)] ∧ t 1 = .fs 2 (List.map eTrial l)) ⟨rfl, rfl⟩ fun t h ⟨s0, s1⟩ => ?_
  simp only [x_circuit_Fewest]
  refine cw_reg_seq fun K hK => ?_
  simp only [go_sem, s0]
  refine hK _ _ ?_
  clear hK K
  refine cw_assoc ?_
  obtain ⟨y2, h_y2, hm0⟩ := bind_get hm0
  refine cw_reg_seq fun K hK => ?_
  simp only [go_sem, s1]
  refine icall_fn (k_circuit_check c l _ h_y2) ?_
  simp only [go_sem, s1]
  refine hK _ _ ?_
  clear hK K
  refine cw_assoc ?_
  refine cw_reg_seq fun K hK => ?_
  simp only [go_sem]
  refine hK _ _ ?_
  clear hK K
  refine cw_seq_k fun K3 hK3 => ?_
  simp only [go_sem]
  refine ibr_intro (fun hc4 => ?_) (fun hc4 => ?_)
  · rw [if_t hc4] at hm0
    refine cw_reg_seq fun K hK => ?_
    simp only [go_sem]
    refine hK _ _ ?_
    clear hK K
    simp only [cw_ret, qseq_ret, qblock_ret, retQ_ret]
    obtain rfl := Option.some.inj hm0
    exact done_fz2 (v := .v (.slice none 0 0)) (u := I y2) (by simp only [go_sem, List.length_append, List.map_append]) (by simp only [go_sem, List.length_append, List.map_append]) (.nil _) (.refl _ (frz_v _))
  · rw [if_f hc4] at hm0
    simp only [cw_skip, qblock_normal, qseq_normal]
    refine hK3 _ _ ?_
    obtain ⟨y6, h_y6, hm0⟩ := bind_get hm0
    refine cw_reg_seq fun K hK => ?_
    simp only [go_sem, s1]
    refine icall_fn (k_circuit_all c l _ h_y6) ?_
    simp only [go_sem, s1]
    refine hK _ _ ?_
    clear hK K
    refine cw_reg_seq fun K hK => ?_
    simp only [go_sem]
    refine hK _ _ ?_
    clear hK K
    refine cw_reg_seq fun K hK => ?_
    simp only [go_sem]
    refine hK _ _ ?_
    clear hK K
    refine cw_assoc ?_
    obtain ⟨q8, h_q8, hm0⟩ := bind_get hm0
    refine cw_reg_seq fun K hK => ?_
    simp only [go_sem, s1, ibin_shl h_q8]
    refine hK _ _ ?_
    clear hK K
    refine cw_seq_k fun K9 hK9 => ?_
    have J10 : ∀ (best_9 : Option (List Int)) (w9 : AV) (t : Slots) (h : Heap), t 9 = w9 → NilF w9 1 eI best_9 → circuit_Fewest_j10 best_9 = some r → K9 t h := by
      intro best_9 w9 t h s9 nf_w9 hm0
      refine hK9 _ _ ?_
      unfold circuit_Fewest_j10 at hm0
      refine cw_reg_seq fun K hK => ?_
      simp only [go_sem, s9, ilen_nf nf_w9, istr_of w9]
      refine hK _ _ ?_
      clear hK K
      simp only [cw_ret, qseq_ret, qblock_ret, retQ_ret]
      obtain rfl := Option.some.inj hm0
      exact done_fz2 (v := w9) (u := I 0) (by simp only [go_sem, List.length_append, List.map_append]) (by simp only [go_sem, List.length_append, List.map_append]) (fz_nf nf_w9 fz_eI) (.refl _ (frz_v _))
    simp only [cw_block]
    obtain ⟨b11, hl11, hm0⟩ := bind_get hm0
    refine cw_loopM hl11 (fun | (best_9, found_10, x_31), t, h => ∃ w9 : AV, t 7 = .fs 1 (List.map eI y6.1) ∧ t 8 = I y6.2 ∧ t 9 = w9 ∧ t 10 = B found_10 ∧ t 30 = I q8 ∧ t 31 = I x_31 ∧ NilF w9 1 eI best_9) ?_ ?_
    · exact ⟨(.v (.slice none 0 0)), (by first | rfl | simp only [go_sem, List.length_append, List.map_append]), (by first | rfl | simp only [go_sem, List.length_append, List.map_append]), (by first | rfl | simp only [go_sem, List.length_append, List.map_append]), (by first | rfl | simp only [go_sem, List.length_append, List.map_append]), (by first | rfl | simp only [go_sem, List.length_append, List.map_append]), (by first | rfl | simp only [go_sem, List.length_append, List.map_append]), (by first | assumption | exact rfl)⟩
    · rintro ⟨best_9, found_10, x_31⟩ o t h ⟨w9, s7, s8, s9, s10, s30, s31, nf_w9⟩ hm1 hb11
      simp only [circuit_Fewest_L20] at hm1
      rw [x_circuit_Fewest_L20]
      refine cw_reg_seq fun K hK => ?_
      simp only [go_sem, s30, s31, istr_of w9]
      refine hK _ _ ?_
      clear hK K
      refine cw_seq_k fun K12 hK12 => ?_
      simp only [go_sem]
      refine ibr_intro (fun hc13 => ?_) (fun hc13 => ?_)
      · rw [if_t hc13] at hm1
        simp only [cw_skip, qblock_normal, qseq_normal]
        refine hK12 _ _ ?_
        refine cw_seq_k fun K14 hK14 => ?_
        have J15 : ∀ (best_9_1 : Option (List Int)) (found_10_1 : Bool) (w9_1 : AV) (t : Slots) (h : Heap), t 7 = .fs 1 (List.map eI y6.1) → t 8 = I y6.2 → t 9 = w9_1 → t 10 = B found_10_1 → t 30 = I q8 → t 31 = I x_31 → NilF w9_1 1 eI best_9_1 → circuit_Fewest_j15 x_31 best_9_1 found_10_1 = some o → K14 t h := by
          intro best_9_1 found_10_1 w9_1 t h s7 s8 s9 s10 s30 s31 nf_w9_1 hm1
          refine hK14 _ _ ?_
          unfold circuit_Fewest_j15 at hm1
          refine cw_reg_k fun K hK => ?_
          simp only [go_sem, s31, istr_of w9, istr_of w9_1]
          refine hK _ _ ?_
          clear hK K
          simp only [qblock_normal, qseq_normal]
          obtain rfl := Option.some.inj hm1
          refine ⟨_, rfl, ?_⟩
          exact ⟨w9_1, s7, s8, s9, s10, s30, (by first | rfl | exact s31 | simp only [go_sem, s31, List.length_append, List.map_append]), (by first | assumption | exact rfl)⟩
        simp only [cw_block]
        refine cw_reg_seq fun K hK => ?_
        simp only [go_sem, s31, istr_of w9]
        refine hK _ _ ?_
        clear hK K
        obtain ⟨y17, h_y17, hm1⟩ := bind_get hm1
        refine cw_reg_seq fun K hK => ?_
        simp only [go_sem, istr_of w9]
        refine icall_fn (k_circuit_elements x_31 _ h_y17) ?_
        simp only [go_sem, istr_of w9]
        refine hK _ _ ?_
        clear hK K
        refine cw_assoc ?_
        refine cw_reg_seq fun K hK => ?_
        simp only [go_sem, istr_of w9]
        refine hK _ _ ?_
        clear hK K
        refine cw_seq_k fun K18 hK18 => ?_
        have J19 : ∀ (got_13 : Int) (t : Slots) (h : Heap), t 7 = .fs 1 (List.map eI y6.1) → t 8 = I y6.2 → t 9 = w9 → t 10 = B found_10 → t 12 = .fs 1 (List.map eI y17) → t 13 = I got_13 → t 30 = I q8 → t 31 = I x_31 → NilF w9 1 eI best_9 → circuit_Fewest_j19 y6 best_9 found_10 x_31 y17 got_13 = some o → K18 t h := by
          intro got_13 t h s7 s8 s9 s10 s12 s13 s30 s31 nf_w9 hm1
          refine hK18 _ _ ?_
          unfold circuit_Fewest_j19 at hm1
          obtain ⟨c27, h_c27, hm1⟩ := bind_get hm1
          refine cw_reg_postK (fun t h => t 7 = .fs 1 (List.map eI y6.1) ∧ t 8 = I y6.2 ∧ t 9 = w9 ∧ t 10 = B found_10 ∧ t 12 = .fs 1 (List.map eI y17) ∧ t 30 = I q8 ∧ t 31 = I x_31 ∧ t 75 = B c27 ∧ NilF w9 1 eI best_9) (fun K hK => ?_) ?_
          · simp only [go_sem, s8, s9, ilen_nf nf_w9, s10, s12, s13, istr_of w9]
            refine ibr_intro (fun hg28 => ?_) (fun hg28 => ?_)
            · simp only [hg28, Bool.not_true, Bool.not_false, eq_self, if_true, if_false, Bool.true_or, Bool.or_true, Bool.false_or, Bool.or_false, Bool.true_and, Bool.and_true, Bool.false_and, Bool.and_false, Bool.false_eq_true] at h_c27
              obtain ⟨c26, h_c26, h_c27⟩ := bind_get h_c27
              obtain rfl := Option.some.inj h_c27
              simp only [go_sem, s8, s9, ilen_nf nf_w9, s10, s12, s13, hg28, istr_of w9]
              refine ibr_intro (fun hg29 => ?_) (fun hg29 => ?_)
              · simp only [hg28, hg29, Bool.not_true, Bool.not_false, eq_self, if_true, if_false, Bool.true_or, Bool.or_true, Bool.false_or, Bool.or_false, Bool.true_and, Bool.and_true, Bool.false_and, Bool.and_false, Bool.false_eq_true] at h_c26
                obtain rfl := Option.some.inj h_c26
                simp only [go_sem, s8, s9, ilen_nf nf_w9, s10, s12, s13, hg28, hg29, istr_of w9]
                exact hK _ _ ⟨s7, s8, s9, s10, s12, s30, s31, (by first | rfl | simp only [go_sem, hg28, hg29, List.length_append, List.map_append]), (by first | assumption | exact rfl)⟩
              · simp only [go_sem, s8, s9, ilen_nf nf_w9, s10, s12, s13, hg28, hg29, istr_of w9]
                refine ibr_intro (fun hg30 => ?_) (fun hg30 => ?_)
                · simp only [hg28, hg29, hg30, Bool.not_true, Bool.not_false, eq_self, if_true, if_false, Bool.true_or, Bool.or_true, Bool.false_or, Bool.or_false, Bool.true_and, Bool.and_true, Bool.false_and, Bool.and_false, Bool.false_eq_true] at h_c26
                  obtain rfl := Option.some.inj h_c26
                  simp only [go_sem, s8, s9, ilen_nf nf_w9, s10, s12, s13, hg28, hg29, hg30, istr_of w9]
                  exact hK _ _ ⟨s7, s8, s9, s10, s12, s30, s31, (by first | rfl | simp only [go_sem, hg28, hg29, hg30, List.length_append, List.map_append]), (by first | assumption | exact rfl)⟩
                · simp only [hg28, hg29, hg30, Bool.not_true, Bool.not_false, eq_self, if_true, if_false, Bool.true_or, Bool.or_true, Bool.false_or, Bool.or_false, Bool.true_and, Bool.and_true, Bool.false_and, Bool.and_false, Bool.false_eq_true] at h_c26
                  obtain ⟨c25, h_c25, h_c26⟩ := bind_get h_c26
                  obtain rfl := Option.some.inj h_c26
                  simp only [go_sem, s8, s9, ilen_nf nf_w9, s10, s12, s13, hg28, hg29, hg30, istr_of w9]
                  refine ibr_intro (fun hg31 => ?_) (fun hg31 => ?_)
                  · simp only [hg28, hg29, hg30, hg31, Bool.not_true, Bool.not_false, eq_self, if_true, if_false, Bool.true_or, Bool.or_true, Bool.false_or, Bool.or_false, Bool.true_and, Bool.and_true, Bool.false_and, Bool.and_false, Bool.false_eq_true] at h_c25
                    obtain ⟨y24, h_y24, h_c25⟩ := bind_get h_c25
                    obtain rfl := Option.some.inj h_c25
                    simp only [go_sem, s8, s9, ilen_nf nf_w9, s10, s12, s13, hg28, hg29, hg30, hg31, istr_of w9]
                    refine icall_fn2 ?_ (fz_cons (frz_fs fun a _ => fz_eI a) (fz_cons (frz_nf nf_w9 fz_eI) fz_nil)) (k_slices_Compare___int_int_ y17 (Option.getD best_9 []) _ h_y24) ?_
                    · exact .cons (.refl _ (frz_fs fun a _ => fz_eI a)) (.cons (fz_nf nf_w9 fz_eI) (.nil))
                    simp only [go_sem, s8, s9, ilen_nf nf_w9, s10, s12, s13, hg28, hg29, hg30, hg31, istr_of w9]
                    exact hK _ _ ⟨s7, s8, s9, s10, s12, s30, s31, (by first | rfl | simp only [go_sem, hg28, hg29, hg30, hg31, List.length_append, List.map_append]), (by first | assumption | exact rfl)⟩
                  · simp only [hg28, hg29, hg30, hg31, Bool.not_true, Bool.not_false, eq_self, if_true, if_false, Bool.true_or, Bool.or_true, Bool.false_or, Bool.or_false, Bool.true_and, Bool.and_true, Bool.false_and, Bool.and_false, Bool.false_eq_true] at h_c25
                    obtain rfl := Option.some.inj h_c25
                    simp only [go_sem, s8, s9, ilen_nf nf_w9, s10, s12, s13, hg28, hg29, hg30, hg31, istr_of w9]
                    exact hK _ _ ⟨s7, s8, s9, s10, s12, s30, s31, (by first | rfl | simp only [go_sem, hg28, hg29, hg30, hg31, List.length_append, List.map_append]), (by first | assumption | exact rfl)⟩
            · simp only [hg28, Bool.not_true, Bool.not_false, eq_self, if_true, if_false, Bool.true_or, Bool.or_true, Bool.false_or, Bool.or_false, Bool.true_and, Bool.and_true, Bool.false_and, Bool.and_false, Bool.false_eq_true] at h_c27
              obtain rfl := Option.some.inj h_c27
              simp only [go_sem, s8, s9, ilen_nf nf_w9, s10, s12, s13, hg28, istr_of w9]
              exact hK _ _ ⟨s7, s8, s9, s10, s12, s30, s31, (by first | rfl | simp only [go_sem, hg28, List.length_append, List.map_append]), (by first | assumption | exact rfl)⟩
          · rintro t h ⟨s7, s8, s9, s10, s12, s30, s31, s75, nf_w9⟩
            simp only [go_sem, s75]
            refine ibr_intro (fun hc32 => ?_) (fun hc32 => ?_)
            · rw [if_t hc32] at hm1
              refine cw_reg_k fun K hK => ?_
              simp only [go_sem, s12, istr_of w9]
              refine hK _ _ ?_
              clear hK K
              simp only [qblock_normal, qseq_normal]
              exact J15 (some y17) true (.fs 1 (List.map eI y17)) _ _ s7 s8 (by first | rfl | exact s9 | simp only [go_sem, s9, List.length_append, List.map_append]) (by first | rfl | exact s10 | simp only [go_sem, s10, List.length_append, List.map_append]) s30 s31 (by first | assumption | exact rfl) hm1
            · rw [if_f hc32] at hm1
              simp only [cw_skip, qblock_normal, qseq_normal]
              exact J15 best_9 found_10 w9 _ _ s7 s8 s9 s10 s30 s31 (by first | assumption | exact rfl) hm1
        simp only [cw_block]
        obtain ⟨b33, hl33, hm1⟩ := bind_get hm1
        refine cw_loopM hl33 (fun | (got_13, x_38), t, h => t 7 = .fs 1 (List.map eI y6.1) ∧ t 8 = I y6.2 ∧ t 9 = w9 ∧ t 10 = B found_10 ∧ t 12 = .fs 1 (List.map eI y17) ∧ t 13 = I got_13 ∧ t 30 = I q8 ∧ t 31 = I x_31 ∧ t 36 = .fs 1 (List.map eI y17) ∧ t 37 = I (List.length y17 : Int) ∧ t 38 = I x_38 ∧ NilF w9 1 eI best_9) ?_ ?_
        · exact ⟨s7, s8, s9, s10, (by first | rfl | simp only [go_sem, List.length_append, List.map_append]), (by first | rfl | simp only [go_sem, List.length_append, List.map_append]), s30, s31, (by first | rfl | simp only [go_sem, List.length_append, List.map_append]), (by first | rfl | simp only [go_sem, List.length_append, List.map_append]), (by first | rfl | simp only [go_sem, List.length_append, List.map_append]), (by first | assumption | exact rfl)⟩
        · rintro ⟨got_13, x_38⟩ o t h ⟨s7, s8, s9, s10, s12, s13, s30, s31, s36, s37, s38, nf_w9⟩ hm2 hb33
          simp only [circuit_Fewest_L16] at hm2
          rw [x_circuit_Fewest_L16]
          refine cw_reg_seq fun K hK => ?_
          simp only [go_sem, s37, s38, istr_of w9]
          refine hK _ _ ?_
          clear hK K
          refine cw_seq_k fun K34 hK34 => ?_
          simp only [go_sem]
          refine ibr_intro (fun hc35 => ?_) (fun hc35 => ?_)
          · rw [if_t hc35] at hm2
            simp only [cw_skip, qblock_normal, qseq_normal]
            refine hK34 _ _ ?_
            refine cw_seq_k fun K36 hK36 => ?_
            simp only [cw_block]
            obtain ⟨x38, h_x38, hm2⟩ := bind_get hm2
            have h_x380 := get_nn h_x38
            have h_x381 := get_lt h_x38
            refine cw_reg_seq fun K hK => ?_
            simp only [go_sem, s36, s38, ielem_get h_x38, irow_get h_x38, h_x380, h_x381, istr_of w9]
            refine hK _ _ ?_
            clear hK K
            obtain ⟨x40, h_x40, hm2⟩ := bind_get hm2
            have h_x400 := get_nn h_x40
            have h_x401 := get_lt h_x40
            refine cw_reg_k fun K hK => ?_
            simp only [go_sem, s7, s13, ielem_get h_x40, irow_get h_x40, h_x400, h_x401, istr_of w9]
            refine hK _ _ ?_
            clear hK K
            simp only [qblock_normal, qseq_normal]
            refine hK36 _ _ ?_
            refine cw_reg_k fun K hK => ?_
            simp only [go_sem, s38, istr_of w9]
            refine hK _ _ ?_
            clear hK K
            simp only [qblock_normal, qseq_normal]
            obtain rfl := Option.some.inj hm2
            refine ⟨_, rfl, ?_⟩
            exact ⟨s7, s8, s9, s10, s12, (by first | rfl | exact s13 | simp only [go_sem, s13, List.length_append, List.map_append]), s30, s31, s36, s37, (by first | rfl | exact s38 | simp only [go_sem, s38, List.length_append, List.map_append]), (by first | assumption | exact rfl)⟩
          · rw [if_f hc35] at hm2
            simp only [cw_exit, qseq_exit, qblock_same, qblock_ne, qblock_normal, qseq_normal, Nat.reduceEqDiff, not_false_eq_true]
            obtain rfl := Option.some.inj hm2
            obtain rfl := hb33 _ rfl
            try dsimp only at hm1
            exact J19 got_13 _ _ s7 s8 s9 s10 s12 s13 s30 s31 (by first | assumption | exact rfl) hm1
      · rw [if_f hc13] at hm1
        simp only [cw_exit, qseq_exit, qblock_same, qblock_ne, qblock_normal, qseq_normal, Nat.reduceEqDiff, not_false_eq_true]
        obtain rfl := Option.some.inj hm1
        obtain rfl := hb11 _ rfl
        try dsimp only at hm0
        exact J10 best_9 w9 _ _ s9 (by first | assumption | exact rfl) hm0

end Go.Nw.DM

namespace Go.Nw.DM
open Go.Nw.Door
set_option linter.unusedSimpArgs false
set_option linter.unusedVariables false
variable {O : Orac}

theorem k_circuit_Pairs (hf : Has O "newel/circuit.Pairs" x_circuit_Pairs) (k_circuit_Critical : C_circuit_Critical O) (k_slices_Contains___int_int_ : C_slices_Contains___int_int_ O) (k_circuit_weak : C_circuit_weak O) : C_circuit_Pairs O := by
  intro c r hm0
  unfold circuit_Pairs at hm0
  refine fn_cw hf rfl (fz_cons (.agg _ (fz_cons (frz_v _) (fz_cons (frz_fs fun a _ => fz_eI a) (fz_cons (frz_fs fun a _ => fz_eWire a) fz_nil)))) fz_nil) (.tup _ (fz_cons (frz_fs fun a _ => fz_eA2_I a) (fz_cons (frz_v _) fz_nil))) ?_
  refine cw_start (fun t h => t 0 = .agg [I c.Hazards, .fs 1 (List.map eI c.Switches), .fs 2 (List.map eWire c.Wires)]) rfl fun t h s0 => ?_
  simp only [x_circuit_Pairs]
  refine cw_reg_seq fun K hK => ?_
  simp only [go_sem, s0]
  refine hK _ _ ?_
  clear hK K
  obtain ⟨y2, h_y2, hm0⟩ := bind_get hm0
  refine cw_reg_seq fun K hK => ?_
  simp only [go_sem]
  refine icall_fn (k_circuit_Critical c _ h_y2) ?_
  simp only [go_sem]
  refine hK _ _ ?_
  clear hK K
  refine cw_assoc ?_
  refine cw_reg_seq fun K hK => ?_
  simp only [go_sem]
  refine hK _ _ ?_
  clear hK K
  refine cw_seq_k fun K3 hK3 => ?_
  simp only [go_sem]
  refine ibr_intro (fun hc4 => ?_) (fun hc4 => ?_)
  · rw [if_t hc4] at hm0
    refine cw_reg_seq fun K hK => ?_
    simp only [go_sem]
    refine hK _ _ ?_
    clear hK K
    simp only [cw_ret, qseq_ret, qblock_ret, retQ_ret]
    obtain rfl := Option.some.inj hm0
    exact done_fz2 (v := .v (.slice none 0 0)) (u := I y2.2) (by simp only [go_sem, List.length_append, List.map_append]) (by simp only [go_sem, List.length_append, List.map_append]) (.nil _) (.refl _ (frz_v _))
  · rw [if_f hc4] at hm0
    simp only [cw_skip, qblock_normal, qseq_normal]
    refine hK3 _ _ ?_
    refine cw_reg_seq fun K hK => ?_
    simp only [go_sem]
    refine hK _ _ ?_
    clear hK K
    refine cw_assoc ?_
    refine cw_reg_seq fun K hK => ?_
    simp only [go_sem]
    refine hK _ _ ?_
    clear hK K
    refine cw_seq_k fun K5 hK5 => ?_
    have J6 : ∀ (out_6 : List (Int × Int)) (v6 : AV) (t : Slots) (h : Heap), t 6 = v6 → OwnS h v6 2 (List.map eA2_I out_6) → circuit_Pairs_j6 out_6 = some r → K5 t h := by
      intro out_6 v6 t h s6 ow_o6 hm0
      refine hK5 _ _ ?_
      unfold circuit_Pairs_j6 at hm0
      refine cw_reg_seq fun K hK => ?_
      simp only [go_sem, s6, istr_of v6]
      refine hK _ _ ?_
      clear hK K
      simp only [cw_ret, qseq_ret, qblock_ret, retQ_ret]
      obtain rfl := Option.some.inj hm0
      exact done_fz2 (v := v6) (u := I 0) (by simp only [go_sem, List.length_append, List.map_append]) (by simp only [go_sem, List.length_append, List.map_append]) (fz_own (f := eA2_I) (l := out_6) (own_later ow_o6 (by intro j hj hl; first | rfl | simp only [go_sem, hl]) (by first | omega | (simp only [go_sem, nxs]; omega))) fz_eA2_I ln_eA2_I) (.refl _ (frz_v _))
    simp only [cw_block]
    obtain ⟨b7, hl7, hm0⟩ := bind_get hm0
    refine cw_loopM hl7 (fun | (out_6, x_20), t, h => ∃ v6 : AV, t 1 = .fp [I c.Hazards, .fs 1 (List.map eI c.Switches), .fs 2 (List.map eWire c.Wires)] 0 ∧ t 4 = .fs 1 (List.map eI y2.1) ∧ t 6 = v6 ∧ t 19 = I (List.length c.Switches : Int) ∧ t 20 = I x_20 ∧ OwnS h v6 2 (List.map eA2_I out_6)) ?_ ?_
    · exact ⟨(.v (.slice none 0 0)), (by first | rfl | simp only [go_sem, List.length_append, List.map_append]), (by first | rfl | simp only [go_sem, List.length_append, List.map_append]), (by first | rfl | simp only [go_sem, List.length_append, List.map_append]), (by first | rfl | simp only [go_sem, List.length_append, List.map_append]), (by first | rfl | simp only [go_sem, List.length_append, List.map_append]), own_nil'⟩
    · rintro ⟨out_6, x_20⟩ o t h ⟨v6, s1, s4, s6, s19, s20, ow_o6⟩ hm1 hb7
      simp only [circuit_Pairs_L15] at hm1
      rw [x_circuit_Pairs_L15]
      refine cw_reg_seq fun K hK => ?_
      simp only [go_sem, s19, s20, istr_of v6]
      refine hK _ _ ?_
      clear hK K
      refine cw_seq_k fun K8 hK8 => ?_
      simp only [go_sem]
      refine ibr_intro (fun hc9 => ?_) (fun hc9 => ?_)
      · rw [if_t hc9] at hm1
        simp only [cw_skip, qblock_normal, qseq_normal]
        refine hK8 _ _ ?_
        refine cw_seq_k fun K10 hK10 => ?_
        have J11 : ∀ (out_6_1 : List (Int × Int)) (v6_1 : AV) (t : Slots) (h : Heap), t 1 = .fp [I c.Hazards, .fs 1 (List.map eI c.Switches), .fs 2 (List.map eWire c.Wires)] 0 → t 4 = .fs 1 (List.map eI y2.1) → t 6 = v6_1 → t 19 = I (List.length c.Switches : Int) → t 20 = I x_20 → OwnS h v6_1 2 (List.map eA2_I out_6_1) → circuit_Pairs_j11 x_20 out_6_1 = some o → K10 t h := by
          intro out_6_1 v6_1 t h s1 s4 s6 s19 s20 ow_o6 hm1
          refine hK10 _ _ ?_
          unfold circuit_Pairs_j11 at hm1
          refine cw_reg_k fun K hK => ?_
          simp only [go_sem, s20, istr_of v6, istr_of v6_1]
          refine hK _ _ ?_
          clear hK K
          simp only [qblock_normal, qseq_normal]
          obtain rfl := Option.some.inj hm1
          refine ⟨_, rfl, ?_⟩
          exact ⟨v6_1, s1, s4, s6, s19, (by first | rfl | exact s20 | simp only [go_sem, s20, List.length_append, List.map_append]), ow_o6⟩
        simp only [cw_block]
        refine cw_reg_seq fun K hK => ?_
        simp only [go_sem, s20, istr_of v6]
        refine hK _ _ ?_
        clear hK K
        refine cw_reg_seq fun K hK => ?_
        simp only [go_sem, istr_of v6]
        refine hK _ _ ?_
        clear hK K
        simp only [cw_block]
        obtain ⟨b12, hl12, hm1⟩ := bind_get hm1
        refine cw_loopM hl12 (fun | (out_6_1, b_8), t, h => ∃ v6_1 : AV, t 1 = .fp [I c.Hazards, .fs 1 (List.map eI c.Switches), .fs 2 (List.map eWire c.Wires)] 0 ∧ t 4 = .fs 1 (List.map eI y2.1) ∧ t 6 = v6_1 ∧ t 7 = I x_20 ∧ t 8 = I b_8 ∧ t 19 = I (List.length c.Switches : Int) ∧ t 20 = I x_20 ∧ OwnS h v6_1 2 (List.map eA2_I out_6_1)) ?_ ?_
        · exact ⟨v6, s1, s4, s6, (by first | rfl | simp only [go_sem, List.length_append, List.map_append]), (by first | rfl | simp only [go_sem, List.length_append, List.map_append]), s19, s20, ow_o6⟩
        · rintro ⟨out_6_1, b_8⟩ o t h ⟨v6_1, s1, s4, s6, s7, s8, s19, s20, ow_o6⟩ hm2 hb12
          simp only [circuit_Pairs_L13] at hm2
          rw [x_circuit_Pairs_L13]
          refine cw_assoc ?_
          refine cw_reg_seq fun K hK => ?_
          simp only [go_sem, s1, s8, istr_of v6, istr_of v6_1]
          refine hK _ _ ?_
          clear hK K
          refine cw_seq_k fun K13 hK13 => ?_
          simp only [go_sem]
          refine ibr_intro (fun hc14 => ?_) (fun hc14 => ?_)
          · rw [if_t hc14] at hm2
            simp only [cw_skip, qblock_normal, qseq_normal]
            refine hK13 _ _ ?_
            refine cw_seq_k fun K15 hK15 => ?_
            have J16 : ∀ (out_6_2 : List (Int × Int)) (v6_2 : AV) (t : Slots) (h : Heap), t 1 = .fp [I c.Hazards, .fs 1 (List.map eI c.Switches), .fs 2 (List.map eWire c.Wires)] 0 → t 4 = .fs 1 (List.map eI y2.1) → t 6 = v6_2 → t 7 = I x_20 → t 8 = I b_8 → t 19 = I (List.length c.Switches : Int) → t 20 = I x_20 → OwnS h v6_2 2 (List.map eA2_I out_6_2) → circuit_Pairs_j16 b_8 out_6_2 = some o → K15 t h := by
              intro out_6_2 v6_2 t h s1 s4 s6 s7 s8 s19 s20 ow_o6 hm2
              refine hK15 _ _ ?_
              unfold circuit_Pairs_j16 at hm2
              refine cw_reg_k fun K hK => ?_
              simp only [go_sem, s8, istr_of v6, istr_of v6_1, istr_of v6_2]
              refine hK _ _ ?_
              clear hK K
              simp only [qblock_normal, qseq_normal]
              obtain rfl := Option.some.inj hm2
              refine ⟨_, rfl, ?_⟩
              exact ⟨v6_2, s1, s4, s6, s7, (by first | rfl | exact s8 | simp only [go_sem, s8, List.length_append, List.map_append]), s19, s20, ow_o6⟩
            simp only [cw_block]
            obtain ⟨y24, h_y24, hm2⟩ := bind_get hm2
            obtain ⟨c26, h_c26, hm2⟩ := bind_get hm2
            obtain ⟨c30, h_c30, hm2⟩ := bind_get hm2
            refine cw_reg_postK (fun t h => t 1 = .fp [I c.Hazards, .fs 1 (List.map eI c.Switches), .fs 2 (List.map eWire c.Wires)] 0 ∧ t 4 = .fs 1 (List.map eI y2.1) ∧ t 6 = v6_1 ∧ t 7 = I x_20 ∧ t 8 = I b_8 ∧ t 19 = I (List.length c.Switches : Int) ∧ t 20 = I x_20 ∧ t 52 = B c30 ∧ OwnS h v6_1 2 (List.map eA2_I out_6_1)) (fun K hK => ?_) ?_
            · simp only [go_sem, s1, s4, s7, s8, istr_of v6, istr_of v6_1]
              refine icall_fn (k_slices_Contains___int_int_ y2.1 x_20 _ h_y24) ?_
              simp only [go_sem, s1, s4, s7, s8, istr_of v6, istr_of v6_1]
              refine ibr_intro (fun hg31 => ?_) (fun hg31 => ?_)
              · simp only [hg31, Bool.not_true, Bool.not_false, eq_self, if_true, if_false, Bool.true_or, Bool.or_true, Bool.false_or, Bool.or_false, Bool.true_and, Bool.and_true, Bool.false_and, Bool.and_false, Bool.false_eq_true] at h_c26
                obtain ⟨y25, h_y25, h_c26⟩ := bind_get h_c26
                obtain rfl := Option.some.inj h_c26
                simp only [go_sem, s1, s4, s7, s8, hg31, istr_of v6, istr_of v6_1]
                refine icall_fn (k_slices_Contains___int_int_ y2.1 b_8 _ h_y25) ?_
                simp only [go_sem, s1, s4, s7, s8, hg31, istr_of v6, istr_of v6_1]
                refine ibr_intro (fun hg32 => ?_) (fun hg32 => ?_)
                · simp only [hg31, hg32, Bool.not_true, Bool.not_false, eq_self, if_true, if_false, Bool.true_or, Bool.or_true, Bool.false_or, Bool.or_false, Bool.true_and, Bool.and_true, Bool.false_and, Bool.and_false, Bool.false_eq_true] at h_c30
                  obtain ⟨q27, h_q27, h_c30⟩ := bind_get h_c30
                  obtain ⟨q28, h_q28, h_c30⟩ := bind_get h_c30
                  obtain ⟨y29, h_y29, h_c30⟩ := bind_get h_c30
                  obtain rfl := Option.some.inj h_c30
                  simp only [go_sem, s1, s4, s7, s8, ibin_shl h_q27, ibin_shl h_q28, hg31, hg32, istr_of v6, istr_of v6_1]
                  refine icall_fn (k_circuit_weak c (bor q27 q28) _ h_y29) ?_
                  simp only [go_sem, s1, s4, s7, s8, ibin_shl h_q27, ibin_shl h_q28, hg31, hg32, istr_of v6, istr_of v6_1]
                  exact hK _ _ ⟨s1, s4, s6, s7, s8, s19, s20, (by first | rfl | simp only [go_sem, hg31, hg32, List.length_append, List.map_append]), ow_o6⟩
                · simp only [hg31, hg32, Bool.not_true, Bool.not_false, eq_self, if_true, if_false, Bool.true_or, Bool.or_true, Bool.false_or, Bool.or_false, Bool.true_and, Bool.and_true, Bool.false_and, Bool.and_false, Bool.false_eq_true] at h_c30
                  obtain rfl := Option.some.inj h_c30
                  simp only [go_sem, s1, s4, s7, s8, hg31, hg32, istr_of v6, istr_of v6_1]
                  exact hK _ _ ⟨s1, s4, s6, s7, s8, s19, s20, (by first | rfl | simp only [go_sem, hg31, hg32, List.length_append, List.map_append]), ow_o6⟩
              · simp only [hg31, Bool.not_true, Bool.not_false, eq_self, if_true, if_false, Bool.true_or, Bool.or_true, Bool.false_or, Bool.or_false, Bool.true_and, Bool.and_true, Bool.false_and, Bool.and_false, Bool.false_eq_true] at h_c26
                obtain rfl := Option.some.inj h_c26
                simp only [hg31, Bool.not_true, Bool.not_false, eq_self, if_true, if_false, Bool.true_or, Bool.or_true, Bool.false_or, Bool.or_false, Bool.true_and, Bool.and_true, Bool.false_and, Bool.and_false, Bool.false_eq_true] at h_c30
                obtain rfl := Option.some.inj h_c30
                simp only [go_sem, s1, s4, s7, s8, hg31, istr_of v6, istr_of v6_1]
                exact hK _ _ ⟨s1, s4, s6, s7, s8, s19, s20, (by first | rfl | simp only [go_sem, hg31, List.length_append, List.map_append]), ow_o6⟩
            · rintro t h ⟨s1, s4, s6, s7, s8, s19, s20, s52, ow_o6⟩
              simp only [go_sem, s52]
              refine ibr_intro (fun hc33 => ?_) (fun hc33 => ?_)
              · rw [if_t hc33] at hm2
                obtain ⟨l35, h_l35, hm2⟩ := bind_get hm2
                refine cw_reg_k fun K hK => ?_
                simp only [go_sem, s6, s7, s8, istr_of v6, istr_of v6_1]
                refine iapp_own (f := eA2_I) (l := out_6_1) (m := ([(x_20, b_8)])) ?_ ?_ ?_ ?_ h_l35 ?_
                · exact (own_later ow_o6 (by intro j hj hl; first | rfl | simp only [go_sem, hl]) (by first | omega | (simp only [go_sem, nxs]; omega)))
                · exact (ownx_rs (by simp only [go_sem, List.length_append, List.map_append]) (by simp only [go_sem, List.length_append, List.map_append]))
                · exact (nd_rs (by first | exact notid_nil | exact notid_rs (by first | omega | (simp only [nxs]; omega)) | assumption | exact own_notid (by assumption) (by first | omega | (simp only [go_sem, nxs]; omega))))
                · exact (fun _ => by simp)
                simp only [go_sem, s6, s7, s8, istr_of v6, istr_of v6_1]
                refine hK _ _ ?_
                clear hK K
                simp only [qblock_normal, qseq_normal]
                exact J16 l35 (.rs (nxs h.nx) 0 (List.length l35)) _ _ s1 s4 (by first | rfl | exact s6 | simp only [go_sem, s6, List.length_append, List.map_append]) s7 s8 s19 s20 (own_rs (by simp only [go_sem, List.length_append, List.map_append]) (by simp only [go_sem, List.length_append, List.map_append]) (by simp only [go_sem])) hm2
              · rw [if_f hc33] at hm2
                simp only [cw_skip, qblock_normal, qseq_normal]
                exact J16 out_6_1 v6_1 _ _ s1 s4 s6 s7 s8 s19 s20 ow_o6 hm2
          · rw [if_f hc14] at hm2
            simp only [cw_exit, qseq_exit, qblock_same, qblock_ne, qblock_normal, qseq_normal, Nat.reduceEqDiff, not_false_eq_true]
            obtain rfl := Option.some.inj hm2
            obtain rfl := hb12 _ rfl
            try dsimp only at hm1
            exact J11 out_6_1 v6_1 _ _ s1 s4 s6 s19 s20 ow_o6 hm1
      · rw [if_f hc9] at hm1
        simp only [cw_exit, qseq_exit, qblock_same, qblock_ne, qblock_normal, qseq_normal, Nat.reduceEqDiff, not_false_eq_true]
        obtain rfl := Option.some.inj hm1
        obtain rfl := hb7 _ rfl
        try dsimp only at hm0
        exact J6 out_6 v6 _ _ s6 ow_o6 hm0

end Go.Nw.DM

namespace Go.Nw.DM
open Go.Nw.Door
set_option linter.unusedSimpArgs false
set_option linter.unusedVariables false
variable {O : Orac}

theorem k_circuit_Shows (hf : Has O "newel/circuit.Shows" x_circuit_Shows) (k_circuit_check : C_circuit_check O) (k_circuit_shown : C_circuit_shown O) (k_circuit_elements : C_circuit_elements O) : C_circuit_Shows O := by
  intro c l trial r hm0
  unfold circuit_Shows at hm0
  refine fn_cw hf rfl (fz_cons (.agg _ (fz_cons (frz_v _) (fz_cons (frz_fs fun a _ => fz_eI a) (fz_cons (frz_fs fun a _ => fz_eWire a) fz_nil)))) (fz_cons (frz_fs fun a _ => fz_eTrial a) (fz_cons (frz_v _) fz_nil))) (.tup _ (fz_cons (frz_fs fun a _ => fz_eI a) (fz_cons (frz_v _) fz_nil))) ?_
  refine cw_start (fun t h => t 0 = .agg [I c.Hazards, .fs 1 (List.map eI c.Switches), .fs 2 (List.map eWire c.Wires)] ∧ t 1 = .fs 2 (List.map eTrial l) ∧ t 2 = I trial) ⟨rfl, rfl, rfl⟩ fun t h ⟨s0, s1, s2⟩ => ?_
  simp only [x_circuit_Shows]
  refine cw_reg_seq fun K hK => ?_
  simp only [go_sem, s0]
  refine hK _ _ ?_
  clear hK K
  refine cw_assoc ?_
  obtain ⟨y2, h_y2, hm0⟩ := bind_get hm0
  refine cw_reg_seq fun K hK => ?_
  simp only [go_sem, s1]
  refine icall_fn (k_circuit_check c l _ h_y2) ?_
  simp only [go_sem, s1]
  refine hK _ _ ?_
  clear hK K
  refine cw_assoc ?_
  refine cw_reg_seq fun K hK => ?_
  simp only [go_sem]
  refine hK _ _ ?_
  clear hK K
  refine cw_seq_k fun K3 hK3 => ?_
  simp only [go_sem]
  refine ibr_intro (fun hc4 => ?_) (fun hc4 => ?_)
  · rw [if_t hc4] at hm0
    refine cw_reg_seq fun K hK => ?_
    simp only [go_sem]
    refine hK _ _ ?_
    clear hK K
    simp only [cw_ret, qseq_ret, qblock_ret, retQ_ret]
    obtain rfl := Option.some.inj hm0
    exact done_fz2 (v := .v (.slice none 0 0)) (u := I y2) (by simp only [go_sem, List.length_append, List.map_append]) (by simp only [go_sem, List.length_append, List.map_append]) (.nil _) (.refl _ (frz_v _))
  · rw [if_f hc4] at hm0
    simp only [cw_skip, qblock_normal, qseq_normal]
    refine hK3 _ _ ?_
    refine cw_assoc ?_
    refine cw_reg_postK (fun t h => t 1 = .fs 2 (List.map eTrial l) ∧ t 2 = I trial ∧ t 3 = .fp [I c.Hazards, .fs 1 (List.map eI c.Switches), .fs 2 (List.map eWire c.Wires)] 0 ∧ t 22 = B ((decide (trial < 0)) || (decide ((List.length l : Int) ≤ trial)))) (fun K hK => ?_) ?_
    · simp only [go_sem, s1, s2]
      refine ibr_intro (fun hg5 => ?_) (fun hg5 => ?_)
      · simp only [go_sem, s1, s2, hg5]
        exact hK _ _ ⟨s1, s2, (by first | rfl | simp only [go_sem, hg5, List.length_append, List.map_append]), (by first | rfl | simp only [go_sem, hg5, List.length_append, List.map_append])⟩
      · simp only [go_sem, s1, s2, hg5]
        exact hK _ _ ⟨s1, s2, (by first | rfl | simp only [go_sem, hg5, List.length_append, List.map_append]), (by first | rfl | simp only [go_sem, hg5, List.length_append, List.map_append])⟩
    · rintro t h ⟨s1, s2, s3, s22⟩
      refine cw_seq_k fun K6 hK6 => ?_
      simp only [go_sem, s22]
      refine ibr_intro (fun hc7 => ?_) (fun hc7 => ?_)
      · rw [if_t hc7] at hm0
        refine cw_reg_seq fun K hK => ?_
        simp only [go_sem]
        refine hK _ _ ?_
        clear hK K
        simp only [cw_ret, qseq_ret, qblock_ret, retQ_ret]
        obtain rfl := Option.some.inj hm0
        exact done_fz2 (v := .v (.slice none 0 0)) (u := I 1) (by simp only [go_sem, List.length_append, List.map_append]) (by simp only [go_sem, List.length_append, List.map_append]) (.nil _) (.refl _ (frz_v _))
      · rw [if_f hc7] at hm0
        simp only [cw_skip, qblock_normal, qseq_normal]
        refine hK6 _ _ ?_
        obtain ⟨x11, h_x11, hm0⟩ := bind_get hm0
        have h_x110 := get_nn h_x11
        have h_x111 := get_lt h_x11
        obtain ⟨y12, h_y12, hm0⟩ := bind_get hm0
        obtain ⟨y13, h_y13, hm0⟩ := bind_get hm0
        refine cw_reg_seq fun K hK => ?_
        simp only [go_sem, s1, s2, s3, ielem_get h_x11, irow_get h_x11, h_x110, h_x111]
        refine icall_fn (k_circuit_shown c x11 _ h_y12) ?_
        simp only [go_sem, s1, s2, s3, ielem_get h_x11, irow_get h_x11, h_x110, h_x111]
        refine icall_fn (k_circuit_elements y12 _ h_y13) ?_
        simp only [go_sem, s1, s2, s3, ielem_get h_x11, irow_get h_x11, h_x110, h_x111]
        refine hK _ _ ?_
        clear hK K
        simp only [cw_ret, qseq_ret, qblock_ret, retQ_ret]
        obtain rfl := Option.some.inj hm0
        exact done_t2 (by simp only [go_sem, List.length_append, List.map_append]) (by simp only [go_sem, List.length_append, List.map_append]) (frz_fs fun a _ => fz_eI a) (frz_v _)

end Go.Nw.DM

namespace Go.Nw.DM
open Go.Nw.Door
set_option linter.unusedSimpArgs false
set_option linter.unusedVariables false
variable {O : Orac}

theorem k_circuit_all (hf : Has O "newel/circuit.all" x_circuit_all) (k_circuit_shown : C_circuit_shown O) : C_circuit_all O := by
  intro c l r hm0
  unfold circuit_all at hm0
  refine fn_cw hf rfl (fz_cons (.agg _ (fz_cons (frz_v _) (fz_cons (frz_fs fun a _ => fz_eI a) (fz_cons (frz_fs fun a _ => fz_eWire a) fz_nil)))) (fz_cons (frz_fs fun a _ => fz_eTrial a) fz_nil)) (.tup _ (fz_cons (frz_fs fun a _ => fz_eI a) (fz_cons (frz_v _) fz_nil))) ?_
  refine cw_start (fun t h => t 0 = .agg [I c.Hazards, .fs 1 (List.map eI c.Switches), .fs 2 (List.map eWire c.Wires)] ∧ t 1 = .fs 2 (List.map eTrial l)) ⟨rfl, rfl⟩ fun t h ⟨s0, s1⟩ => ?_
  simp only [x_circuit_all]
  refine cw_reg_seq fun K hK => ?_
  simp only [go_sem, s0]
  refine hK _ _ ?_
  clear hK K
  refine cw_assoc ?_
  refine cw_reg_seq fun K hK => ?_
  simp only [go_sem, s1]
  refine hK _ _ ?_
  clear hK K
  refine cw_seq_k fun K1 hK1 => ?_
  have J2 : ∀ (each_4 : List Int) (whole_5 : Int) (v4 : AV) (t : Slots) (h : Heap), t 4 = v4 → t 5 = I whole_5 → OwnS h v4 1 (List.map eI each_4) → circuit_all_j2 each_4 whole_5 = some r → K1 t h := by
    intro each_4 whole_5 v4 t h s4 s5 ow_o4 hm0
    refine hK1 _ _ ?_
    unfold circuit_all_j2 at hm0
    refine cw_reg_seq fun K hK => ?_
    simp only [go_sem, s4, s5, istr_of v4]
    refine hK _ _ ?_
    clear hK K
    simp only [cw_ret, qseq_ret, qblock_ret, retQ_ret]
    obtain rfl := Option.some.inj hm0
    exact done_fz2 (v := v4) (u := I whole_5) (by simp only [go_sem, s4, s5, List.length_append, List.map_append]) (by simp only [go_sem, s4, s5, List.length_append, List.map_append]) (fz_own (f := eI) (l := each_4) (own_later ow_o4 (by intro j hj hl; first | rfl | simp only [go_sem, hl]) (by first | omega | (simp only [go_sem, nxs]; omega))) fz_eI ln_eI) (.refl _ (frz_v _))
  simp only [cw_block]
  obtain ⟨b3, hl3, hm0⟩ := bind_get hm0
  refine cw_loopM hl3 (fun | (each_4, whole_5, x_11), t, h => ∃ v4 : AV, t 2 = .fp [I c.Hazards, .fs 1 (List.map eI c.Switches), .fs 2 (List.map eWire c.Wires)] 0 ∧ t 4 = v4 ∧ t 5 = I whole_5 ∧ t 9 = .fs 2 (List.map eTrial l) ∧ t 10 = I (List.length l : Int) ∧ t 11 = I x_11 ∧ OwnS h v4 1 (List.map eI each_4)) ?_ ?_
  · exact ⟨(.v (.slice none 0 0)), (by first | rfl | simp only [go_sem, List.length_append, List.map_append]), (by first | rfl | simp only [go_sem, List.length_append, List.map_append]), (by first | rfl | simp only [go_sem, List.length_append, List.map_append]), (by first | rfl | simp only [go_sem, List.length_append, List.map_append]), (by first | rfl | simp only [go_sem, List.length_append, List.map_append]), (by first | rfl | simp only [go_sem, List.length_append, List.map_append]), own_nil'⟩
  · rintro ⟨each_4, whole_5, x_11⟩ o t h ⟨v4, s2, s4, s5, s9, s10, s11, ow_o4⟩ hm1 hb3
    simp only [circuit_all_L8] at hm1
    rw [x_circuit_all_L8]
    refine cw_reg_seq fun K hK => ?_
    simp only [go_sem, s10, s11, istr_of v4]
    refine hK _ _ ?_
    clear hK K
    refine cw_seq_k fun K4 hK4 => ?_
    simp only [go_sem]
    refine ibr_intro (fun hc5 => ?_) (fun hc5 => ?_)
    · rw [if_t hc5] at hm1
      simp only [cw_skip, qblock_normal, qseq_normal]
      refine hK4 _ _ ?_
      refine cw_seq_k fun K6 hK6 => ?_
      simp only [cw_block]
      obtain ⟨x8, h_x8, hm1⟩ := bind_get hm1
      have h_x80 := get_nn h_x8
      have h_x81 := get_lt h_x8
      refine cw_reg_seq fun K hK => ?_
      simp only [go_sem, s9, s11, ielem_get h_x8, irow_get h_x8, h_x80, h_x81, istr_of v4]
      refine hK _ _ ?_
      clear hK K
      obtain ⟨y10, h_y10, hm1⟩ := bind_get hm1
      refine cw_reg_seq fun K hK => ?_
      simp only [go_sem, s2, istr_of v4]
      refine icall_fn (k_circuit_shown c x8 _ h_y10) ?_
      simp only [go_sem, s2, istr_of v4]
      refine hK _ _ ?_
      clear hK K
      obtain ⟨l12, h_l12, hm1⟩ := bind_get hm1
      refine cw_reg_seq fun K hK => ?_
      simp only [go_sem, s4, istr_of v4]
      refine iapp_own (f := eI) (l := each_4) (m := ([y10])) ?_ ?_ ?_ ?_ h_l12 ?_
      · exact (own_later ow_o4 (by intro j hj hl; first | rfl | simp only [go_sem, hl]) (by first | omega | (simp only [go_sem, nxs]; omega)))
      · exact (ownx_rs (by simp only [go_sem, List.length_append, List.map_append]) (by simp only [go_sem, List.length_append, List.map_append]))
      · exact (nd_rs (by first | exact notid_nil | exact notid_rs (by first | omega | (simp only [nxs]; omega)) | assumption | exact own_notid (by assumption) (by first | omega | (simp only [go_sem, nxs]; omega))))
      · exact (fun _ => by simp)
      simp only [go_sem, s4, istr_of v4]
      refine hK _ _ ?_
      clear hK K
      refine cw_reg_k fun K hK => ?_
      simp only [go_sem, s5, istr_of v4]
      refine hK _ _ ?_
      clear hK K
      simp only [qblock_normal, qseq_normal]
      refine hK6 _ _ ?_
      refine cw_reg_k fun K hK => ?_
      simp only [go_sem, s11, istr_of v4]
      refine hK _ _ ?_
      clear hK K
      simp only [qblock_normal, qseq_normal]
      obtain rfl := Option.some.inj hm1
      refine ⟨_, rfl, ?_⟩
      exact ⟨(.rs (nxs (nxs h.nx)) 0 (List.length l12)), s2, (by first | rfl | exact s4 | simp only [go_sem, s4, List.length_append, List.map_append]), (by first | rfl | exact s5 | simp only [go_sem, s5, List.length_append, List.map_append]), s9, s10, (by first | rfl | exact s11 | simp only [go_sem, s11, List.length_append, List.map_append]), (own_rs (by simp only [go_sem, List.length_append, List.map_append]) (by simp only [go_sem, List.length_append, List.map_append]) (by simp only [go_sem]))⟩
    · rw [if_f hc5] at hm1
      simp only [cw_exit, qseq_exit, qblock_same, qblock_ne, qblock_normal, qseq_normal, Nat.reduceEqDiff, not_false_eq_true]
      obtain rfl := Option.some.inj hm1
      obtain rfl := hb3 _ rfl
      try dsimp only at hm0
      exact J2 each_4 whole_5 v4 _ _ s4 s5 ow_o4 hm0

end Go.Nw.DM

namespace Go.Nw.DM
open Go.Nw.Door
set_option linter.unusedSimpArgs false
set_option linter.unusedVariables false
variable {O : Orac}

theorem k_circuit_ascending (hf : Has O "newel/circuit.ascending" x_circuit_ascending) : C_circuit_ascending O := by
  intro l low high r hm0
  unfold circuit_ascending at hm0
  refine fn_cw hf rfl (fz_cons (frz_fs fun a _ => fz_eI a) (fz_cons (frz_v _) (fz_cons (frz_v _) fz_nil))) (frz_v _) ?_
  refine cw_start (fun t h => t 0 = .fs 1 (List.map eI l) ∧ t 1 = I low ∧ t 2 = I high) ⟨rfl, rfl, rfl⟩ fun t h ⟨s0, s1, s2⟩ => ?_
  simp only [x_circuit_ascending]
  refine cw_reg_seq fun K hK => ?_
  simp only [go_sem]
  refine hK _ _ ?_
  clear hK K
  refine cw_assoc ?_
  refine cw_reg_seq fun K hK => ?_
  simp only [go_sem, s0]
  refine hK _ _ ?_
  clear hK K
  refine cw_seq_k fun K1 hK1 => ?_
  have J2 : ∀ (t : Slots) (h : Heap), circuit_ascending_j2 = some r → K1 t h := by
    intro t h hm0
    refine hK1 _ _ ?_
    unfold circuit_ascending_j2 at hm0
    refine cw_reg_seq fun K hK => ?_
    simp only [go_sem]
    refine hK _ _ ?_
    clear hK K
    simp only [cw_ret, qseq_ret, qblock_ret, retQ_ret]
    obtain rfl := Option.some.inj hm0
    exact done_t (by simp only [go_sem, List.length_append, List.map_append]) (frz_v _)
  simp only [cw_block]
  obtain ⟨b3, hl3, hm0⟩ := bind_get hm0
  refine cw_loopM hl3 (fun | (low_1, x_11), t, h => t 1 = I low_1 ∧ t 2 = I high ∧ t 9 = .fs 1 (List.map eI l) ∧ t 10 = I (List.length l : Int) ∧ t 11 = I x_11) ?_ ?_
  · exact ⟨s1, s2, (by first | rfl | simp only [go_sem, List.length_append, List.map_append]), (by first | rfl | simp only [go_sem, List.length_append, List.map_append]), (by first | rfl | simp only [go_sem, List.length_append, List.map_append])⟩
  · rintro ⟨low_1, x_11⟩ o t h ⟨s1, s2, s9, s10, s11⟩ hm1 hb3
    simp only [circuit_ascending_L8] at hm1
    rw [x_circuit_ascending_L8]
    refine cw_reg_seq fun K hK => ?_
    simp only [go_sem, s10, s11]
    refine hK _ _ ?_
    clear hK K
    refine cw_seq_k fun K4 hK4 => ?_
    simp only [go_sem]
    refine ibr_intro (fun hc5 => ?_) (fun hc5 => ?_)
    · rw [if_t hc5] at hm1
      simp only [cw_skip, qblock_normal, qseq_normal]
      refine hK4 _ _ ?_
      refine cw_seq_k fun K6 hK6 => ?_
      simp only [cw_block]
      obtain ⟨x8, h_x8, hm1⟩ := bind_get hm1
      have h_x80 := get_nn h_x8
      have h_x81 := get_lt h_x8
      refine cw_reg_seq fun K hK => ?_
      simp only [go_sem, s9, s11, ielem_get h_x8, irow_get h_x8, h_x80, h_x81]
      refine hK _ _ ?_
      clear hK K
      refine cw_assoc ?_
      refine cw_reg_postK (fun t h => t 2 = I high ∧ t 8 = I x8 ∧ t 9 = .fs 1 (List.map eI l) ∧ t 10 = I (List.length l : Int) ∧ t 11 = I x_11 ∧ t 22 = B ((decide (x8 < low_1)) || (decide (high ≤ x8)))) (fun K hK => ?_) ?_
      · simp only [go_sem, s1, s2]
        refine ibr_intro (fun hg9 => ?_) (fun hg9 => ?_)
        · simp only [go_sem, s1, s2, hg9]
          exact hK _ _ ⟨s2, (by first | rfl | simp only [go_sem, hg9, List.length_append, List.map_append]), s9, s10, s11, (by first | rfl | simp only [go_sem, hg9, List.length_append, List.map_append])⟩
        · simp only [go_sem, s1, s2, hg9]
          exact hK _ _ ⟨s2, (by first | rfl | simp only [go_sem, hg9, List.length_append, List.map_append]), s9, s10, s11, (by first | rfl | simp only [go_sem, hg9, List.length_append, List.map_append])⟩
      · rintro t h ⟨s2, s8, s9, s10, s11, s22⟩
        refine cw_seq_k fun K10 hK10 => ?_
        simp only [go_sem, s22]
        refine ibr_intro (fun hc11 => ?_) (fun hc11 => ?_)
        · rw [if_t hc11] at hm1
          refine cw_reg_seq fun K hK => ?_
          simp only [go_sem]
          refine hK _ _ ?_
          clear hK K
          simp only [cw_ret, qseq_ret, qblock_ret, retQ_ret]
          obtain rfl := Option.some.inj hm1
          obtain rfl := hb3 _ rfl
          try dsimp only at hm0
          obtain rfl := Option.some.inj hm0
          exact done_t (by simp only [go_sem, List.length_append, List.map_append]) (frz_v _)
        · rw [if_f hc11] at hm1
          simp only [cw_skip, qblock_normal, qseq_normal]
          refine hK10 _ _ ?_
          refine cw_reg_k fun K hK => ?_
          simp only [go_sem, s8]
          refine hK _ _ ?_
          clear hK K
          simp only [qblock_normal, qseq_normal]
          refine hK6 _ _ ?_
          refine cw_reg_k fun K hK => ?_
          simp only [go_sem, s11]
          refine hK _ _ ?_
          clear hK K
          simp only [qblock_normal, qseq_normal]
          obtain rfl := Option.some.inj hm1
          refine ⟨_, rfl, ?_⟩
          exact ⟨(by first | rfl | simp only [go_sem, List.length_append, List.map_append]), s2, s9, s10, (by first | rfl | exact s11 | simp only [go_sem, s11, List.length_append, List.map_append])⟩
    · rw [if_f hc5] at hm1
      simp only [cw_exit, qseq_exit, qblock_same, qblock_ne, qblock_normal, qseq_normal, Nat.reduceEqDiff, not_false_eq_true]
      obtain rfl := Option.some.inj hm1
      obtain rfl := hb3 _ rfl
      try dsimp only at hm0
      exact J2  _ _  hm0

end Go.Nw.DM

namespace Go.Nw.DM
open Go.Nw.Door
set_option linter.unusedSimpArgs false
set_option linter.unusedVariables false
variable {O : Orac}

theorem k_circuit_check (hf : Has O "newel/circuit.check" x_circuit_check) (k_circuit_Check : C_circuit_Check O) (k_circuit_isSet : C_circuit_isSet O) : C_circuit_check O := by
  intro c l r hm0
  unfold circuit_check at hm0
  refine fn_cw hf rfl (fz_cons (.agg _ (fz_cons (frz_v _) (fz_cons (frz_fs fun a _ => fz_eI a) (fz_cons (frz_fs fun a _ => fz_eWire a) fz_nil)))) (fz_cons (frz_fs fun a _ => fz_eTrial a) fz_nil)) (frz_v _) ?_
  refine cw_start (fun t h => t 0 = .agg [I c.Hazards, .fs 1 (List.map eI c.Switches), .fs 2 (List.map eWire c.Wires)] ∧ t 1 = .fs 2 (List.map eTrial l)) ⟨rfl, rfl⟩ fun t h ⟨s0, s1⟩ => ?_
  simp only [x_circuit_check]
  refine cw_reg_seq fun K hK => ?_
  simp only [go_sem, s0]
  refine hK _ _ ?_
  clear hK K
  refine cw_assoc ?_
  obtain ⟨y2, h_y2, hm0⟩ := bind_get hm0
  refine cw_reg_seq fun K hK => ?_
  simp only [go_sem]
  refine icall_fn (k_circuit_Check c _ h_y2) ?_
  simp only [go_sem]
  refine hK _ _ ?_
  clear hK K
  refine cw_assoc ?_
  refine cw_reg_seq fun K hK => ?_
  simp only [go_sem]
  refine hK _ _ ?_
  clear hK K
  refine cw_seq_k fun K3 hK3 => ?_
  simp only [go_sem]
  refine ibr_intro (fun hc4 => ?_) (fun hc4 => ?_)
  · rw [if_t hc4] at hm0
    refine cw_reg_seq fun K hK => ?_
    simp only [go_sem]
    refine hK _ _ ?_
    clear hK K
    simp only [cw_ret, qseq_ret, qblock_ret, retQ_ret]
    obtain rfl := Option.some.inj hm0
    exact done_t (by simp only [go_sem, List.length_append, List.map_append]) (frz_v _)
  · rw [if_f hc4] at hm0
    simp only [cw_skip, qblock_normal, qseq_normal]
    refine hK3 _ _ ?_
    refine cw_assoc ?_
    refine cw_reg_seq fun K hK => ?_
    simp only [go_sem, s1]
    refine hK _ _ ?_
    clear hK K
    refine cw_seq_k fun K5 hK5 => ?_
    simp only [go_sem]
    refine ibr_intro (fun hc6 => ?_) (fun hc6 => ?_)
    · rw [if_t hc6] at hm0
      refine cw_reg_seq fun K hK => ?_
      simp only [go_sem]
      refine hK _ _ ?_
      clear hK K
      simp only [cw_ret, qseq_ret, qblock_ret, retQ_ret]
      obtain rfl := Option.some.inj hm0
      exact done_t (by simp only [go_sem, List.length_append, List.map_append]) (frz_v _)
    · rw [if_f hc6] at hm0
      simp only [cw_skip, qblock_normal, qseq_normal]
      refine hK5 _ _ ?_
      refine cw_assoc ?_
      refine cw_reg_seq fun K hK => ?_
      simp only [go_sem, s1]
      refine hK _ _ ?_
      clear hK K
      refine cw_seq_k fun K7 hK7 => ?_
      have J8 : ∀ (t : Slots) (h : Heap), circuit_check_j8 = some r → K7 t h := by
        intro t h hm0
        refine hK7 _ _ ?_
        unfold circuit_check_j8 at hm0
        refine cw_reg_seq fun K hK => ?_
        simp only [go_sem]
        refine hK _ _ ?_
        clear hK K
        simp only [cw_ret, qseq_ret, qblock_ret, retQ_ret]
        obtain rfl := Option.some.inj hm0
        exact done_t (by simp only [go_sem, List.length_append, List.map_append]) (frz_v _)
      simp only [cw_block]
      obtain ⟨b9, hl9, hm0⟩ := bind_get hm0
      refine cw_loopM hl9 (fun | x_18, t, h => t 2 = .fp [I c.Hazards, .fs 1 (List.map eI c.Switches), .fs 2 (List.map eWire c.Wires)] 0 ∧ t 16 = .fs 2 (List.map eTrial l) ∧ t 17 = I (List.length l : Int) ∧ t 18 = I x_18) ?_ ?_
      · exact ⟨(by first | rfl | simp only [go_sem, List.length_append, List.map_append]), (by first | rfl | simp only [go_sem, List.length_append, List.map_append]), (by first | rfl | simp only [go_sem, List.length_append, List.map_append]), (by first | rfl | simp only [go_sem, List.length_append, List.map_append])⟩
      · rintro x_18 o t h ⟨s2, s16, s17, s18⟩ hm1 hb9
        simp only [circuit_check_L12] at hm1
        rw [x_circuit_check_L12]
        refine cw_reg_seq fun K hK => ?_
        simp only [go_sem, s17, s18]
        refine hK _ _ ?_
        clear hK K
        refine cw_seq_k fun K10 hK10 => ?_
        simp only [go_sem]
        refine ibr_intro (fun hc11 => ?_) (fun hc11 => ?_)
        · rw [if_t hc11] at hm1
          simp only [cw_skip, qblock_normal, qseq_normal]
          refine hK10 _ _ ?_
          refine cw_seq_k fun K12 hK12 => ?_
          simp only [cw_block]
          obtain ⟨x14, h_x14, hm1⟩ := bind_get hm1
          have h_x140 := get_nn h_x14
          have h_x141 := get_lt h_x14
          refine cw_reg_seq fun K hK => ?_
          simp only [go_sem, s16, s18, ielem_get h_x14, irow_get h_x14, h_x140, h_x141]
          refine hK _ _ ?_
          clear hK K
          obtain ⟨y16, h_y16, hm1⟩ := bind_get hm1
          refine cw_reg_postK (fun t h => t 2 = .fp [I c.Hazards, .fs 1 (List.map eI c.Switches), .fs 2 (List.map eWire c.Wires)] 0 ∧ t 16 = .fs 2 (List.map eTrial l) ∧ t 17 = I (List.length l : Int) ∧ t 18 = I x_18 ∧ t 40 = B (((!y16) || (decide (x14.Wire < 0))) || (decide ((List.length c.Wires : Int) ≤ x14.Wire)))) (fun K hK => ?_) ?_
          · simp only [go_sem, s2]
            refine icall_fn (k_circuit_isSet x14.Hazards c.Hazards _ h_y16) ?_
            simp only [go_sem, s2]
            refine ibr_intro (fun hg17 => ?_) (fun hg17 => ?_)
            · simp only [go_sem, s2, hg17]
              exact hK _ _ ⟨s2, s16, s17, s18, (by first | rfl | simp only [go_sem, hg17, List.length_append, List.map_append])⟩
            · simp only [go_sem, s2, hg17]
              refine ibr_intro (fun hg18 => ?_) (fun hg18 => ?_)
              · simp only [go_sem, s2, hg17, hg18]
                exact hK _ _ ⟨s2, s16, s17, s18, (by first | rfl | simp only [go_sem, hg17, hg18, List.length_append, List.map_append])⟩
              · simp only [go_sem, s2, hg17, hg18]
                exact hK _ _ ⟨s2, s16, s17, s18, (by first | rfl | simp only [go_sem, hg17, hg18, List.length_append, List.map_append])⟩
          · rintro t h ⟨s2, s16, s17, s18, s40⟩
            simp only [go_sem, s40]
            refine ibr_intro (fun hc19 => ?_) (fun hc19 => ?_)
            · rw [if_t hc19] at hm1
              refine cw_reg_seq fun K hK => ?_
              simp only [go_sem]
              refine hK _ _ ?_
              clear hK K
              simp only [cw_ret, qseq_ret, qblock_ret, retQ_ret]
              obtain rfl := Option.some.inj hm1
              obtain rfl := hb9 _ rfl
              try dsimp only at hm0
              obtain rfl := Option.some.inj hm0
              exact done_t (by simp only [go_sem, List.length_append, List.map_append]) (frz_v _)
            · rw [if_f hc19] at hm1
              simp only [cw_skip, qblock_normal, qseq_normal]
              refine hK12 _ _ ?_
              refine cw_reg_k fun K hK => ?_
              simp only [go_sem, s18]
              refine hK _ _ ?_
              clear hK K
              simp only [qblock_normal, qseq_normal]
              obtain rfl := Option.some.inj hm1
              refine ⟨_, rfl, ?_⟩
              exact ⟨s2, s16, s17, (by first | rfl | exact s18 | simp only [go_sem, s18, List.length_append, List.map_append])⟩
        · rw [if_f hc11] at hm1
          simp only [cw_exit, qseq_exit, qblock_same, qblock_ne, qblock_normal, qseq_normal, Nat.reduceEqDiff, not_false_eq_true]
          obtain rfl := Option.some.inj hm1
          obtain rfl := hb9 _ rfl
          try dsimp only at hm0
          exact J8  _ _  hm0

end Go.Nw.DM

namespace Go.Nw.DM
open Go.Nw.Door
set_option linter.unusedSimpArgs false
set_option linter.unusedVariables false
variable {O : Orac}

theorem k_circuit_checkRota (hf : Has O "newel/circuit.checkRota" x_circuit_checkRota) (k_circuit_check : C_circuit_check O) (k_circuit_ascending : C_circuit_ascending O) : C_circuit_checkRota O := by
  intro c l r_ r hm0
  unfold circuit_checkRota at hm0
  refine fn_cw hf rfl (fz_cons (.agg _ (fz_cons (frz_v _) (fz_cons (frz_fs fun a _ => fz_eI a) (fz_cons (frz_fs fun a _ => fz_eWire a) fz_nil)))) (fz_cons (frz_fs fun a _ => fz_eTrial a) (fz_cons (.agg _ (fz_cons (frz_fs fun a _ => fz_eL_I a) (fz_cons (frz_v _) fz_nil))) fz_nil))) (frz_v _) ?_
  refine cw_start (fun t h => t 0 = .agg [I c.Hazards, .fs 1 (List.map eI c.Switches), .fs 2 (List.map eWire c.Wires)] ∧ t 1 = .fs 2 (List.map eTrial l) ∧ t 2 = .agg [.fs 1 (List.map eL_I r_.Nights), I r_.Gap]) ⟨rfl, rfl, rfl⟩ fun t h ⟨s0, s1, s2⟩ => ?_
  simp only [x_circuit_checkRota]
  refine cw_reg_seq fun K hK => ?_
  simp only [go_sem, s0, s2]
  refine hK _ _ ?_
  clear hK K
  refine cw_assoc ?_
  obtain ⟨y2, h_y2, hm0⟩ := bind_get hm0
  refine cw_reg_seq fun K hK => ?_
  simp only [go_sem, s1]
  refine icall_fn (k_circuit_check c l _ h_y2) ?_
  simp only [go_sem, s1]
  refine hK _ _ ?_
  clear hK K
  refine cw_assoc ?_
  refine cw_reg_seq fun K hK => ?_
  simp only [go_sem]
  refine hK _ _ ?_
  clear hK K
  refine cw_seq_k fun K3 hK3 => ?_
  simp only [go_sem]
  refine ibr_intro (fun hc4 => ?_) (fun hc4 => ?_)
  · rw [if_t hc4] at hm0
    refine cw_reg_seq fun K hK => ?_
    simp only [go_sem]
    refine hK _ _ ?_
    clear hK K
    simp only [cw_ret, qseq_ret, qblock_ret, retQ_ret]
    obtain rfl := Option.some.inj hm0
    exact done_t (by simp only [go_sem, List.length_append, List.map_append]) (frz_v _)
  · rw [if_f hc4] at hm0
    simp only [cw_skip, qblock_normal, qseq_normal]
    refine hK3 _ _ ?_
    refine cw_assoc ?_
    refine cw_reg_postK (fun t h => t 1 = .fs 2 (List.map eTrial l) ∧ t 5 = .fp [.fs 1 (List.map eL_I r_.Nights), I r_.Gap] 0 ∧ t 35 = B ((((decide ((List.length r_.Nights : Int) < 1)) || (decide (60 < (List.length r_.Nights : Int)))) || (decide (r_.Gap < 1))) || (decide (60 < r_.Gap)))) (fun K hK => ?_) ?_
    · simp only [go_sem]
      refine ibr_intro (fun hg5 => ?_) (fun hg5 => ?_)
      · simp only [go_sem, hg5]
        exact hK _ _ ⟨s1, (by first | rfl | simp only [go_sem, hg5, List.length_append, List.map_append]), (by first | rfl | simp only [go_sem, hg5, List.length_append, List.map_append])⟩
      · simp only [go_sem, hg5]
        refine ibr_intro (fun hg6 => ?_) (fun hg6 => ?_)
        · simp only [go_sem, hg5, hg6]
          exact hK _ _ ⟨s1, (by first | rfl | simp only [go_sem, hg5, hg6, List.length_append, List.map_append]), (by first | rfl | simp only [go_sem, hg5, hg6, List.length_append, List.map_append])⟩
        · simp only [go_sem, hg5, hg6]
          refine ibr_intro (fun hg7 => ?_) (fun hg7 => ?_)
          · simp only [go_sem, hg5, hg6, hg7]
            exact hK _ _ ⟨s1, (by first | rfl | simp only [go_sem, hg5, hg6, hg7, List.length_append, List.map_append]), (by first | rfl | simp only [go_sem, hg5, hg6, hg7, List.length_append, List.map_append])⟩
          · simp only [go_sem, hg5, hg6, hg7]
            exact hK _ _ ⟨s1, (by first | rfl | simp only [go_sem, hg5, hg6, hg7, List.length_append, List.map_append]), (by first | rfl | simp only [go_sem, hg5, hg6, hg7, List.length_append, List.map_append])⟩
    · rintro t h ⟨s1, s5, s35⟩
      refine cw_seq_k fun K8 hK8 => ?_
      simp only [go_sem, s35]
      refine ibr_intro (fun hc9 => ?_) (fun hc9 => ?_)
      · rw [if_t hc9] at hm0
        refine cw_reg_seq fun K hK => ?_
        simp only [go_sem]
        refine hK _ _ ?_
        clear hK K
        simp only [cw_ret, qseq_ret, qblock_ret, retQ_ret]
        obtain rfl := Option.some.inj hm0
        exact done_t (by simp only [go_sem, List.length_append, List.map_append]) (frz_v _)
      · rw [if_f hc9] at hm0
        simp only [cw_skip, qblock_normal, qseq_normal]
        refine hK8 _ _ ?_
        refine cw_assoc ?_
        refine cw_reg_seq fun K hK => ?_
        simp only [go_sem, s5]
        refine hK _ _ ?_
        clear hK K
        refine cw_seq_k fun K10 hK10 => ?_
        have J11 : ∀ (t : Slots) (h : Heap), circuit_checkRota_j11 = some r → K10 t h := by
          intro t h hm0
          refine hK10 _ _ ?_
          unfold circuit_checkRota_j11 at hm0
          refine cw_reg_seq fun K hK => ?_
          simp only [go_sem]
          refine hK _ _ ?_
          clear hK K
          simp only [cw_ret, qseq_ret, qblock_ret, retQ_ret]
          obtain rfl := Option.some.inj hm0
          exact done_t (by simp only [go_sem, List.length_append, List.map_append]) (frz_v _)
        simp only [cw_block]
        obtain ⟨b12, hl12, hm0⟩ := bind_get hm0
        refine cw_loopM hl12 (fun | x_39, t, h => t 1 = .fs 2 (List.map eTrial l) ∧ t 37 = .fs 1 (List.map eL_I r_.Nights) ∧ t 38 = I (List.length r_.Nights : Int) ∧ t 39 = I x_39) ?_ ?_
        · exact ⟨s1, (by first | rfl | simp only [go_sem, List.length_append, List.map_append]), (by first | rfl | simp only [go_sem, List.length_append, List.map_append]), (by first | rfl | simp only [go_sem, List.length_append, List.map_append])⟩
        · rintro x_39 o t h ⟨s1, s37, s38, s39⟩ hm1 hb12
          simp only [circuit_checkRota_L12] at hm1
          rw [x_circuit_checkRota_L12]
          refine cw_reg_seq fun K hK => ?_
          simp only [go_sem, s38, s39]
          refine hK _ _ ?_
          clear hK K
          refine cw_seq_k fun K13 hK13 => ?_
          simp only [go_sem]
          refine ibr_intro (fun hc14 => ?_) (fun hc14 => ?_)
          · rw [if_t hc14] at hm1
            simp only [cw_skip, qblock_normal, qseq_normal]
            refine hK13 _ _ ?_
            refine cw_seq_k fun K15 hK15 => ?_
            simp only [cw_block]
            obtain ⟨x17, h_x17, hm1⟩ := bind_get hm1
            have h_x170 := get_nn h_x17
            have h_x171 := get_lt h_x17
            refine cw_reg_seq fun K hK => ?_
            simp only [go_sem, s37, s39, ielem_get h_x17, irow_get h_x17, h_x170, h_x171]
            refine hK _ _ ?_
            clear hK K
            obtain ⟨y19, h_y19, hm1⟩ := bind_get hm1
            refine cw_reg_seq fun K hK => ?_
            simp only [go_sem, s1]
            refine icall_fn (k_circuit_ascending x17 0 (List.length l : Int) _ h_y19) ?_
            simp only [go_sem, s1]
            refine hK _ _ ?_
            clear hK K
            simp only [go_sem]
            refine ibr_intro (fun hc20 => ?_) (fun hc20 => ?_)
            · rw [if_t hc20] at hm1
              refine cw_reg_seq fun K hK => ?_
              simp only [go_sem]
              refine hK _ _ ?_
              clear hK K
              simp only [cw_ret, qseq_ret, qblock_ret, retQ_ret]
              obtain rfl := Option.some.inj hm1
              obtain rfl := hb12 _ rfl
              try dsimp only at hm0
              obtain rfl := Option.some.inj hm0
              exact done_t (by simp only [go_sem, List.length_append, List.map_append]) (frz_v _)
            · rw [if_f hc20] at hm1
              simp only [cw_skip, qblock_normal, qseq_normal]
              refine hK15 _ _ ?_
              refine cw_reg_k fun K hK => ?_
              simp only [go_sem, s39]
              refine hK _ _ ?_
              clear hK K
              simp only [qblock_normal, qseq_normal]
              obtain rfl := Option.some.inj hm1
              refine ⟨_, rfl, ?_⟩
              exact ⟨s1, s37, s38, (by first | rfl | exact s39 | simp only [go_sem, s39, List.length_append, List.map_append])⟩
          · rw [if_f hc14] at hm1
            simp only [cw_exit, qseq_exit, qblock_same, qblock_ne, qblock_normal, qseq_normal, Nat.reduceEqDiff, not_false_eq_true]
            obtain rfl := Option.some.inj hm1
            obtain rfl := hb12 _ rfl
            try dsimp only at hm0
            exact J11  _ _  hm0

end Go.Nw.DM

namespace Go.Nw.DM
open Go.Nw.Door
set_option linter.unusedSimpArgs false
set_option linter.unusedVariables false
variable {O : Orac}

theorem k_circuit_elements (hf : Has O "newel/circuit.elements" x_circuit_elements) (k_math_bits_TrailingZeros : C_math_bits_TrailingZeros O) : C_circuit_elements O := by
  intro set r hm0
  unfold circuit_elements at hm0
  refine fn_cw hf rfl (fz_cons (frz_v _) fz_nil) (frz_fs fun a _ => fz_eI a) ?_
  refine cw_start (fun t h => t 0 = I set) rfl fun t h s0 => ?_
  simp only [x_circuit_elements]
  refine cw_reg_seq fun K hK => ?_
  simp only [go_sem]
  refine hK _ _ ?_
  clear hK K
  refine cw_seq_k fun K1 hK1 => ?_
  have J2 : ∀ (out_2 : List Int) (v2 : AV) (t : Slots) (h : Heap), t 2 = v2 → OwnS h v2 1 (List.map eI out_2) → circuit_elements_j2 out_2 = some r → K1 t h := by
    intro out_2 v2 t h s2 ow_o2 hm0
    refine hK1 _ _ ?_
    unfold circuit_elements_j2 at hm0
    refine cw_reg_seq fun K hK => ?_
    simp only [go_sem, s2, istr_of v2]
    refine hK _ _ ?_
    clear hK K
    simp only [cw_ret, qseq_ret, qblock_ret, retQ_ret]
    obtain rfl := Option.some.inj hm0
    exact done_fz (v := v2) (by simp only [go_sem, s2, List.length_append, List.map_append]) (fz_own (f := eI) (l := out_2) (own_later ow_o2 (by intro j hj hl; first | rfl | simp only [go_sem, hl]) (by first | omega | (simp only [go_sem, nxs]; omega))) fz_eI ln_eI)
  simp only [cw_block]
  obtain ⟨b3, hl3, hm0⟩ := bind_get hm0
  refine cw_loopM hl3 (fun | (set_0, out_2), t, h => ∃ v2 : AV, t 0 = I set_0 ∧ t 2 = v2 ∧ OwnS h v2 1 (List.map eI out_2)) ?_ ?_
  · exact ⟨(.v (.slice none 0 0)), s0, (by first | rfl | simp only [go_sem, List.length_append, List.map_append]), own_nil'⟩
  · rintro ⟨set_0, out_2⟩ o t h ⟨v2, s0, s2, ow_o2⟩ hm1 hb3
    simp only [circuit_elements_L4] at hm1
    rw [x_circuit_elements_L4]
    refine cw_assoc ?_
    refine cw_reg_seq fun K hK => ?_
    simp only [go_sem, s0, istr_of v2]
    refine hK _ _ ?_
    clear hK K
    refine cw_seq_k fun K4 hK4 => ?_
    simp only [go_sem]
    refine ibr_intro (fun hc5 => ?_) (fun hc5 => ?_)
    · rw [if_t hc5] at hm1
      simp only [cw_skip, qblock_normal, qseq_normal]
      refine hK4 _ _ ?_
      refine cw_seq_k fun K6 hK6 => ?_
      simp only [cw_block]
      obtain ⟨y9, h_y9, hm1⟩ := bind_get hm1
      obtain ⟨l10, h_l10, hm1⟩ := bind_get hm1
      refine cw_reg_k fun K hK => ?_
      simp only [go_sem, s0, s2, istr_of v2]
      refine icall_fn (k_math_bits_TrailingZeros (IntKind.wrap .u64 set_0) _ h_y9) ?_
      simp only [go_sem, s0, s2, istr_of v2]
      refine iapp_own (f := eI) (l := out_2) (m := ([y9])) ?_ ?_ ?_ ?_ h_l10 ?_
      · exact (own_later ow_o2 (by intro j hj hl; first | rfl | simp only [go_sem, hl]) (by first | omega | (simp only [go_sem, nxs]; omega)))
      · exact (ownx_rs (by simp only [go_sem, List.length_append, List.map_append]) (by simp only [go_sem, List.length_append, List.map_append]))
      · exact (nd_rs (by first | exact notid_nil | exact notid_rs (by first | omega | (simp only [nxs]; omega)) | assumption | exact own_notid (by assumption) (by first | omega | (simp only [go_sem, nxs]; omega))))
      · exact (fun _ => by simp)
      simp only [go_sem, s0, s2, istr_of v2]
      refine hK _ _ ?_
      clear hK K
      simp only [qblock_normal, qseq_normal]
      refine hK6 _ _ ?_
      refine cw_reg_k fun K hK => ?_
      simp only [go_sem, s0, istr_of v2]
      refine hK _ _ ?_
      clear hK K
      simp only [qblock_normal, qseq_normal]
      obtain rfl := Option.some.inj hm1
      refine ⟨_, rfl, ?_⟩
      exact ⟨(.rs (nxs h.nx) 0 (List.length l10)), (by first | rfl | exact s0 | simp only [go_sem, s0, List.length_append, List.map_append]), (by first | rfl | exact s2 | simp only [go_sem, s2, List.length_append, List.map_append]), (own_rs (by simp only [go_sem, List.length_append, List.map_append]) (by simp only [go_sem, List.length_append, List.map_append]) (by simp only [go_sem]))⟩
    · rw [if_f hc5] at hm1
      simp only [cw_exit, qseq_exit, qblock_same, qblock_ne, qblock_normal, qseq_normal, Nat.reduceEqDiff, not_false_eq_true]
      obtain rfl := Option.some.inj hm1
      obtain rfl := hb3 _ rfl
      try dsimp only at hm0
      exact J2 out_2 v2 _ _ s2 ow_o2 hm0

end Go.Nw.DM

namespace Go.Nw.DM
open Go.Nw.Door
set_option linter.unusedSimpArgs false
set_option linter.unusedVariables false
variable {O : Orac}

theorem k_circuit_gap (hf : Has O "newel/circuit.gap" x_circuit_gap) : C_circuit_gap O := by
  intro switches many nights r hm0
  unfold circuit_gap at hm0
  refine fn_cw hf rfl (fz_cons (frz_v _) (fz_cons (frz_v _) (fz_cons (frz_fs fun a _ => fz_eI a) fz_nil))) (.tup _ (fz_cons (frz_v _) (fz_cons (frz_v _) (fz_cons (frz_v _) fz_nil)))) ?_
  refine cw_start (fun t h => t 0 = I switches ∧ t 1 = I many ∧ t 2 = .fs 1 (List.map eI nights)) ⟨rfl, rfl, rfl⟩ fun t h ⟨s0, s1, s2⟩ => ?_
  simp only [x_circuit_gap]
  refine cw_reg_seq fun K hK => ?_
  simp only [go_sem]
  refine hK _ _ ?_
  clear hK K
  refine cw_assoc ?_
  refine cw_reg_seq fun K hK => ?_
  simp only [go_sem, s0]
  refine hK _ _ ?_
  clear hK K
  refine cw_seq_k fun K1 hK1 => ?_
  have J2 : ∀ (t : Slots) (h : Heap), circuit_gap_j2 = some r → K1 t h := by
    intro t h hm0
    refine hK1 _ _ ?_
    unfold circuit_gap_j2 at hm0
    refine cw_reg_seq fun K hK => ?_
    simp only [go_sem]
    refine hK _ _ ?_
    clear hK K
    simp only [cw_ret, qseq_ret, qblock_ret, retQ_ret]
    obtain rfl := Option.some.inj hm0
    exact done_t3 (by simp only [go_sem, List.length_append, List.map_append]) (by simp only [go_sem, List.length_append, List.map_append]) (by simp only [go_sem, List.length_append, List.map_append]) (frz_v _) (frz_v _) (frz_v _)
  simp only [cw_block]
  obtain ⟨b3, hl3, hm0⟩ := bind_get hm0
  refine cw_loopM hl3 (fun | x_12, t, h => t 1 = I many ∧ t 2 = .fs 1 (List.map eI nights) ∧ t 11 = I switches ∧ t 12 = I x_12) ?_ ?_
  · exact ⟨s1, s2, (by first | rfl | simp only [go_sem, List.length_append, List.map_append]), (by first | rfl | simp only [go_sem, List.length_append, List.map_append])⟩
  · rintro x_12 o t h ⟨s1, s2, s11, s12⟩ hm1 hb3
    simp only [circuit_gap_L19] at hm1
    rw [x_circuit_gap_L19]
    refine cw_reg_seq fun K hK => ?_
    simp only [go_sem, s11, s12]
    refine hK _ _ ?_
    clear hK K
    refine cw_seq_k fun K4 hK4 => ?_
    simp only [go_sem]
    refine ibr_intro (fun hc5 => ?_) (fun hc5 => ?_)
    · rw [if_t hc5] at hm1
      simp only [cw_skip, qblock_normal, qseq_normal]
      refine hK4 _ _ ?_
      refine cw_seq_k fun K6 hK6 => ?_
      have J7 : ∀ (t : Slots) (h : Heap), t 1 = I many → t 2 = .fs 1 (List.map eI nights) → t 11 = I switches → t 12 = I x_12 → circuit_gap_j7 x_12 = some o → K6 t h := by
        intro t h s1 s2 s11 s12 hm1
        refine hK6 _ _ ?_
        unfold circuit_gap_j7 at hm1
        refine cw_reg_k fun K hK => ?_
        simp only [go_sem, s12]
        refine hK _ _ ?_
        clear hK K
        simp only [qblock_normal, qseq_normal]
        obtain rfl := Option.some.inj hm1
        refine ⟨_, rfl, ?_⟩
        exact ⟨s1, s2, s11, (by first | rfl | exact s12 | simp only [go_sem, s12, List.length_append, List.map_append])⟩
      simp only [cw_block]
      refine cw_reg_seq fun K hK => ?_
      simp only [go_sem, s12]
      refine hK _ _ ?_
      clear hK K
      refine cw_reg_seq fun K hK => ?_
      simp only [go_sem, s2]
      refine hK _ _ ?_
      clear hK K
      simp only [cw_block]
      obtain ⟨b8, hl8, hm1⟩ := bind_get hm1
      refine cw_loopM hl8 (fun | (sw_6, x_17), t, h => t 1 = I many ∧ t 2 = .fs 1 (List.map eI nights) ∧ t 6 = I sw_6 ∧ t 11 = I switches ∧ t 12 = I x_12 ∧ t 16 = I (List.length nights : Int) ∧ t 17 = I x_17) ?_ ?_
      · exact ⟨s1, s2, (by first | rfl | simp only [go_sem, List.length_append, List.map_append]), s11, s12, (by first | rfl | simp only [go_sem, List.length_append, List.map_append]), (by first | rfl | simp only [go_sem, List.length_append, List.map_append])⟩
      · rintro ⟨sw_6, x_17⟩ o t h ⟨s1, s2, s6, s11, s12, s16, s17⟩ hm2 hb8
        simp only [circuit_gap_L17] at hm2
        rw [x_circuit_gap_L17]
        refine cw_reg_seq fun K hK => ?_
        simp only [go_sem, s16, s17]
        refine hK _ _ ?_
        clear hK K
        refine cw_seq_k fun K9 hK9 => ?_
        simp only [go_sem]
        refine ibr_intro (fun hc10 => ?_) (fun hc10 => ?_)
        · rw [if_t hc10] at hm2
          simp only [cw_skip, qblock_normal, qseq_normal]
          refine hK9 _ _ ?_
          refine cw_seq_k fun K11 hK11 => ?_
          have J12 : ∀ (t : Slots) (h : Heap), t 1 = I many → t 2 = .fs 1 (List.map eI nights) → t 6 = I sw_6 → t 11 = I switches → t 12 = I x_12 → t 16 = I (List.length nights : Int) → t 17 = I x_17 → circuit_gap_j12 sw_6 x_17 = some o → K11 t h := by
            intro t h s1 s2 s6 s11 s12 s16 s17 hm2
            refine hK11 _ _ ?_
            unfold circuit_gap_j12 at hm2
            refine cw_reg_k fun K hK => ?_
            simp only [go_sem, s17]
            refine hK _ _ ?_
            clear hK K
            simp only [qblock_normal, qseq_normal]
            obtain rfl := Option.some.inj hm2
            refine ⟨_, rfl, ?_⟩
            exact ⟨s1, s2, s6, s11, s12, s16, (by first | rfl | exact s17 | simp only [go_sem, s17, List.length_append, List.map_append])⟩
          simp only [cw_block]
          refine cw_reg_seq fun K hK => ?_
          simp only [go_sem, s17]
          refine hK _ _ ?_
          clear hK K
          refine cw_reg_seq fun K hK => ?_
          simp only [go_sem]
          refine hK _ _ ?_
          clear hK K
          refine cw_assoc ?_
          refine cw_reg_seq fun K hK => ?_
          simp only [go_sem, s1]
          refine hK _ _ ?_
          clear hK K
          refine cw_seq_k fun K13 hK13 => ?_
          have J14 : ∀ (made_9 : Bool) (t : Slots) (h : Heap), t 1 = I many → t 2 = .fs 1 (List.map eI nights) → t 6 = I sw_6 → t 7 = I x_17 → t 9 = B made_9 → t 11 = I switches → t 12 = I x_12 → t 16 = I (List.length nights : Int) → t 17 = I x_17 → circuit_gap_j14 sw_6 x_17 made_9 = some o → K13 t h := by
            intro made_9 t h s1 s2 s6 s7 s9 s11 s12 s16 s17 hm2
            refine hK13 _ _ ?_
            unfold circuit_gap_j14 at hm2
            refine cw_reg_seq fun K hK => ?_
            simp only [go_sem, s9]
            refine hK _ _ ?_
            clear hK K
            simp only [go_sem]
            refine ibr_intro (fun hc15 => ?_) (fun hc15 => ?_)
            · rw [if_t hc15] at hm2
              refine cw_reg_seq fun K hK => ?_
              simp only [go_sem, s6, s7]
              refine hK _ _ ?_
              clear hK K
              simp only [cw_ret, qseq_ret, qblock_ret, retQ_ret]
              obtain rfl := Option.some.inj hm2
              obtain rfl := hb8 _ rfl
              try dsimp only at hm1
              obtain rfl := Option.some.inj hm1
              obtain rfl := hb3 _ rfl
              try dsimp only at hm0
              obtain rfl := Option.some.inj hm0
              exact done_t3 (by simp only [go_sem, s6, s7, List.length_append, List.map_append]) (by simp only [go_sem, s6, s7, List.length_append, List.map_append]) (by simp only [go_sem, s6, s7, List.length_append, List.map_append]) (frz_v _) (frz_v _) (frz_v _)
            · rw [if_f hc15] at hm2
              simp only [cw_skip, qblock_normal, qseq_normal]
              exact J12  _ _ s1 s2 s6 s11 s12 s16 s17 hm2
          simp only [cw_block]
          obtain ⟨b16, hl16, hm2⟩ := bind_get hm2
          refine cw_loopM hl16 (fun | (made_9, x_21), t, h => t 1 = I many ∧ t 2 = .fs 1 (List.map eI nights) ∧ t 6 = I sw_6 ∧ t 7 = I x_17 ∧ t 9 = B made_9 ∧ t 11 = I switches ∧ t 12 = I x_12 ∧ t 16 = I (List.length nights : Int) ∧ t 17 = I x_17 ∧ t 20 = I many ∧ t 21 = I x_21) ?_ ?_
          · exact ⟨s1, s2, s6, (by first | rfl | simp only [go_sem, List.length_append, List.map_append]), (by first | rfl | simp only [go_sem, List.length_append, List.map_append]), s11, s12, s16, s17, (by first | rfl | simp only [go_sem, List.length_append, List.map_append]), (by first | rfl | simp only [go_sem, List.length_append, List.map_append])⟩
          · rintro ⟨made_9, x_21⟩ o t h ⟨s1, s2, s6, s7, s9, s11, s12, s16, s17, s20, s21⟩ hm3 hb16
            simp only [circuit_gap_L13] at hm3
            rw [x_circuit_gap_L13]
            refine cw_reg_seq fun K hK => ?_
            simp only [go_sem, s20, s21]
            refine hK _ _ ?_
            clear hK K
            refine cw_seq_k fun K17 hK17 => ?_
            simp only [go_sem]
            refine ibr_intro (fun hc18 => ?_) (fun hc18 => ?_)
            · rw [if_t hc18] at hm3
              simp only [cw_skip, qblock_normal, qseq_normal]
              refine hK17 _ _ ?_
              refine cw_seq_k fun K19 hK19 => ?_
              simp only [cw_block]
              refine cw_reg_seq fun K hK => ?_
              simp only [go_sem, s21]
              refine hK _ _ ?_
              clear hK K
              obtain ⟨c27, h_c27, hm3⟩ := bind_get hm3
              refine cw_reg_postK1 (fun t h => t 1 = I many ∧ t 2 = .fs 1 (List.map eI nights) ∧ t 6 = I sw_6 ∧ t 7 = I x_17 ∧ t 9 = B c27 ∧ t 11 = I switches ∧ t 12 = I x_12 ∧ t 16 = I (List.length nights : Int) ∧ t 17 = I x_17 ∧ t 20 = I many ∧ t 21 = I x_21) (fun K hK => ?_) ?_
              · simp only [go_sem, s2, s6, s7, s9]
                refine ibr_intro (fun hg28 => ?_) (fun hg28 => ?_)
                · simp only [hg28, Bool.not_true, Bool.not_false, eq_self, if_true, if_false, Bool.true_or, Bool.or_true, Bool.false_or, Bool.or_false, Bool.true_and, Bool.and_true, Bool.false_and, Bool.and_false, Bool.false_eq_true] at h_c27
                  obtain rfl := Option.some.inj h_c27
                  simp only [go_sem, s2, s6, s7, s9, hg28]
                  exact hK _ _ ⟨s1, s2, s6, s7, (by first | rfl | exact s9 | simp only [go_sem, s9, hg28, List.length_append, List.map_append]), s11, s12, s16, s17, s20, s21⟩
                · simp only [hg28, Bool.not_true, Bool.not_false, eq_self, if_true, if_false, Bool.true_or, Bool.or_true, Bool.false_or, Bool.or_false, Bool.true_and, Bool.and_true, Bool.false_and, Bool.and_false, Bool.false_eq_true] at h_c27
                  obtain ⟨q24, h_q24, h_c27⟩ := bind_get h_c27
                  obtain ⟨x25, h_x25, h_c27⟩ := bind_get h_c27
                  have h_x250 := get_nn h_x25
                  have h_x251 := get_lt h_x25
                  obtain ⟨q26, h_q26, h_c27⟩ := bind_get h_c27
                  obtain rfl := Option.some.inj h_c27
                  simp only [go_sem, s2, s6, s7, s9, ibin_rem h_q24, ielem_get h_x25, irow_get h_x25, h_x250, h_x251, ibin_shr h_q26, hg28]
                  exact hK _ _ ⟨s1, s2, s6, s7, (by first | rfl | exact s9 | simp only [go_sem, s9, hg28, List.length_append, List.map_append]), s11, s12, s16, s17, s20, s21⟩
              · rintro t h ⟨s1, s2, s6, s7, s9, s11, s12, s16, s17, s20, s21⟩
                simp only [qblock_normal, qseq_normal]
                refine hK19 _ _ ?_
                refine cw_reg_k fun K hK => ?_
                simp only [go_sem, s21]
                refine hK _ _ ?_
                clear hK K
                simp only [qblock_normal, qseq_normal]
                obtain rfl := Option.some.inj hm3
                refine ⟨_, rfl, ?_⟩
                exact ⟨s1, s2, s6, s7, s9, s11, s12, s16, s17, s20, (by first | rfl | exact s21 | simp only [go_sem, s21, List.length_append, List.map_append])⟩
            · rw [if_f hc18] at hm3
              simp only [cw_exit, qseq_exit, qblock_same, qblock_ne, qblock_normal, qseq_normal, Nat.reduceEqDiff, not_false_eq_true]
              obtain rfl := Option.some.inj hm3
              obtain rfl := hb16 _ rfl
              try dsimp only at hm2
              exact J14 made_9 _ _ s1 s2 s6 s7 s9 s11 s12 s16 s17 hm2
        · rw [if_f hc10] at hm2
          simp only [cw_exit, qseq_exit, qblock_same, qblock_ne, qblock_normal, qseq_normal, Nat.reduceEqDiff, not_false_eq_true]
          obtain rfl := Option.some.inj hm2
          obtain rfl := hb8 _ rfl
          try dsimp only at hm1
          exact J7  _ _ s1 s2 s11 s12 hm1
    · rw [if_f hc5] at hm1
      simp only [cw_exit, qseq_exit, qblock_same, qblock_ne, qblock_normal, qseq_normal, Nat.reduceEqDiff, not_false_eq_true]
      obtain rfl := Option.some.inj hm1
      obtain rfl := hb3 _ rfl
      try dsimp only at hm0
      exact J2  _ _  hm0

end Go.Nw.DM

namespace Go.Nw.DM
open Go.Nw.Door
set_option linter.unusedSimpArgs false
set_option linter.unusedVariables false
variable {O : Orac}

theorem k_circuit_isSet (hf : Has O "newel/circuit.isSet" x_circuit_isSet) : C_circuit_isSet O := by
  intro n many r hm0
  unfold circuit_isSet at hm0
  refine fn_cw hf rfl (fz_cons (frz_v _) (fz_cons (frz_v _) fz_nil)) (frz_v _) ?_
  refine cw_start (fun t h => t 0 = I n ∧ t 1 = I many) ⟨rfl, rfl⟩ fun t h ⟨s0, s1⟩ => ?_
  simp only [x_circuit_isSet]
  refine cw_reg_seq fun K hK => ?_
  simp only [go_sem]
  refine hK _ _ ?_
  clear hK K
  obtain ⟨c4, h_c4, hm0⟩ := bind_get hm0
  refine cw_reg_postK (fun t h => t 4 = B c4) (fun K hK => ?_) ?_
  · simp only [go_sem, s0, s1]
    refine ibr_intro (fun hg5 => ?_) (fun hg5 => ?_)
    · simp only [hg5, Bool.not_true, Bool.not_false, eq_self, if_true, if_false, Bool.true_or, Bool.or_true, Bool.false_or, Bool.or_false, Bool.true_and, Bool.and_true, Bool.false_and, Bool.and_false, Bool.false_eq_true] at h_c4
      obtain ⟨q3, h_q3, h_c4⟩ := bind_get h_c4
      obtain rfl := Option.some.inj h_c4
      simp only [go_sem, s0, s1, ibin_shl h_q3, hg5]
      exact hK _ _ (by first | rfl | simp only [go_sem, hg5, List.length_append, List.map_append])
    · simp only [hg5, Bool.not_true, Bool.not_false, eq_self, if_true, if_false, Bool.true_or, Bool.or_true, Bool.false_or, Bool.or_false, Bool.true_and, Bool.and_true, Bool.false_and, Bool.and_false, Bool.false_eq_true] at h_c4
      obtain rfl := Option.some.inj h_c4
      simp only [go_sem, s0, s1, hg5]
      exact hK _ _ (by first | rfl | simp only [go_sem, hg5, List.length_append, List.map_append])
  · rintro t h s4
    simp only [cw_ret, qseq_ret, qblock_ret, retQ_ret]
    obtain rfl := Option.some.inj hm0
    exact done_t (by simp only [go_sem, s4, List.length_append, List.map_append]) (frz_v _)

end Go.Nw.DM

namespace Go.Nw.DM
open Go.Nw.Door
set_option linter.unusedSimpArgs false
set_option linter.unusedVariables false
variable {O : Orac}

theorem k_circuit_shown (hf : Has O "newel/circuit.shown" x_circuit_shown) (k_circuit_shows : C_circuit_shows O) : C_circuit_shown O := by
  intro c t_ r hm0
  unfold circuit_shown at hm0
  refine fn_cw hf rfl (fz_cons (.agg _ (fz_cons (frz_v _) (fz_cons (frz_fs fun a _ => fz_eI a) (fz_cons (frz_fs fun a _ => fz_eWire a) fz_nil)))) (fz_cons (.agg _ (fz_cons (frz_v _) (fz_cons (frz_v _) fz_nil))) fz_nil)) (frz_v _) ?_
  refine cw_start (fun t h => t 0 = .agg [I c.Hazards, .fs 1 (List.map eI c.Switches), .fs 2 (List.map eWire c.Wires)] ∧ t 1 = .agg [I t_.Hazards, I t_.Wire]) ⟨rfl, rfl⟩ fun t h ⟨s0, s1⟩ => ?_
  simp only [x_circuit_shown]
  refine cw_reg_seq fun K hK => ?_
  simp only [go_sem, s0, s1]
  refine hK _ _ ?_
  clear hK K
  refine cw_assoc ?_
  refine cw_reg_seq fun K hK => ?_
  simp only [go_sem]
  refine hK _ _ ?_
  clear hK K
  refine cw_seq_k fun K1 hK1 => ?_
  have J2 : ∀ (set_4 : Int) (t : Slots) (h : Heap), t 4 = I set_4 → circuit_shown_j2 set_4 = some r → K1 t h := by
    intro set_4 t h s4 hm0
    refine hK1 _ _ ?_
    unfold circuit_shown_j2 at hm0
    refine cw_reg_seq fun K hK => ?_
    simp only [go_sem, s4]
    refine hK _ _ ?_
    clear hK K
    simp only [cw_ret, qseq_ret, qblock_ret, retQ_ret]
    obtain rfl := Option.some.inj hm0
    exact done_t (by simp only [go_sem, s4, List.length_append, List.map_append]) (frz_v _)
  simp only [cw_block]
  obtain ⟨b3, hl3, hm0⟩ := bind_get hm0
  refine cw_loopM hl3 (fun | (set_4, x_9), t, h => t 2 = .fp [I c.Hazards, .fs 1 (List.map eI c.Switches), .fs 2 (List.map eWire c.Wires)] 0 ∧ t 3 = .fp [I t_.Hazards, I t_.Wire] 0 ∧ t 4 = I set_4 ∧ t 8 = I (List.length c.Switches : Int) ∧ t 9 = I x_9) ?_ ?_
  · exact ⟨(by first | rfl | simp only [go_sem, List.length_append, List.map_append]), (by first | rfl | simp only [go_sem, List.length_append, List.map_append]), (by first | rfl | simp only [go_sem, List.length_append, List.map_append]), (by first | rfl | simp only [go_sem, List.length_append, List.map_append]), (by first | rfl | simp only [go_sem, List.length_append, List.map_append])⟩
  · rintro ⟨set_4, x_9⟩ o t h ⟨s2, s3, s4, s8, s9⟩ hm1 hb3
    simp only [circuit_shown_L7] at hm1
    rw [x_circuit_shown_L7]
    refine cw_reg_seq fun K hK => ?_
    simp only [go_sem, s8, s9]
    refine hK _ _ ?_
    clear hK K
    refine cw_seq_k fun K4 hK4 => ?_
    simp only [go_sem]
    refine ibr_intro (fun hc5 => ?_) (fun hc5 => ?_)
    · rw [if_t hc5] at hm1
      simp only [cw_skip, qblock_normal, qseq_normal]
      refine hK4 _ _ ?_
      refine cw_seq_k fun K6 hK6 => ?_
      have J7 : ∀ (set_4_1 : Int) (t : Slots) (h : Heap), t 2 = .fp [I c.Hazards, .fs 1 (List.map eI c.Switches), .fs 2 (List.map eWire c.Wires)] 0 → t 3 = .fp [I t_.Hazards, I t_.Wire] 0 → t 4 = I set_4_1 → t 8 = I (List.length c.Switches : Int) → t 9 = I x_9 → circuit_shown_j7 x_9 set_4_1 = some o → K6 t h := by
        intro set_4_1 t h s2 s3 s4 s8 s9 hm1
        refine hK6 _ _ ?_
        unfold circuit_shown_j7 at hm1
        refine cw_reg_k fun K hK => ?_
        simp only [go_sem, s9]
        refine hK _ _ ?_
        clear hK K
        simp only [qblock_normal, qseq_normal]
        obtain rfl := Option.some.inj hm1
        refine ⟨_, rfl, ?_⟩
        exact ⟨s2, s3, s4, s8, (by first | rfl | exact s9 | simp only [go_sem, s9, List.length_append, List.map_append])⟩
      simp only [cw_block]
      refine cw_reg_seq fun K hK => ?_
      simp only [go_sem, s9]
      refine hK _ _ ?_
      clear hK K
      obtain ⟨q10, h_q10, hm1⟩ := bind_get hm1
      obtain ⟨y11, h_y11, hm1⟩ := bind_get hm1
      refine cw_reg_seq fun K hK => ?_
      simp only [go_sem, s2, s3, ibin_shl h_q10]
      refine icall_fn (k_circuit_shows c t_ q10 _ h_y11) ?_
      simp only [go_sem, s2, s3, ibin_shl h_q10]
      refine hK _ _ ?_
      clear hK K
      simp only [go_sem]
      refine ibr_intro (fun hc12 => ?_) (fun hc12 => ?_)
      · rw [if_t hc12] at hm1
        refine cw_reg_k fun K hK => ?_
        simp only [go_sem, s4, ibin_shl h_q10]
        refine hK _ _ ?_
        clear hK K
        simp only [qblock_normal, qseq_normal]
        exact J7 (bor set_4 q10) _ _ s2 s3 (by first | rfl | exact s4 | simp only [go_sem, s4, List.length_append, List.map_append]) s8 s9 hm1
      · rw [if_f hc12] at hm1
        simp only [cw_skip, qblock_normal, qseq_normal]
        exact J7 set_4 _ _ s2 s3 s4 s8 s9 hm1
    · rw [if_f hc5] at hm1
      simp only [cw_exit, qseq_exit, qblock_same, qblock_ne, qblock_normal, qseq_normal, Nat.reduceEqDiff, not_false_eq_true]
      obtain rfl := Option.some.inj hm1
      obtain rfl := hb3 _ rfl
      try dsimp only at hm0
      exact J2 set_4 _ _ s4 hm0

end Go.Nw.DM

namespace Go.Nw.DM
open Go.Nw.Door
set_option linter.unusedSimpArgs false
set_option linter.unusedVariables false
variable {O : Orac}

theorem k_circuit_shows (hf : Has O "newel/circuit.shows" x_circuit_shows) (k__circuit_state__wire : C__circuit_state__wire O) : C_circuit_shows O := by
  intro c t_ closed r hm0
  unfold circuit_shows at hm0
  refine fn_cw hf rfl (fz_cons (.agg _ (fz_cons (frz_v _) (fz_cons (frz_fs fun a _ => fz_eI a) (fz_cons (frz_fs fun a _ => fz_eWire a) fz_nil)))) (fz_cons (.agg _ (fz_cons (frz_v _) (fz_cons (frz_v _) fz_nil))) (fz_cons (frz_v _) fz_nil))) (frz_v _) ?_
  refine cw_start (fun t h => t 0 = .agg [I c.Hazards, .fs 1 (List.map eI c.Switches), .fs 2 (List.map eWire c.Wires)] ∧ t 1 = .agg [I t_.Hazards, I t_.Wire] ∧ t 2 = I closed) ⟨rfl, rfl, rfl⟩ fun t h ⟨s0, s1, s2⟩ => ?_
  simp only [x_circuit_shows]
  refine cw_reg_seq fun K hK => ?_
  simp only [go_sem, s0, s1]
  refine hK _ _ ?_
  clear hK K
  refine cw_reg_seq fun K hK => ?_
  simp only [go_sem, s2]
  refine hK _ _ ?_
  clear hK K
  obtain ⟨y4, h_y4, hm0⟩ := bind_get hm0
  obtain ⟨c6, h_c6, hm0⟩ := bind_get hm0
  refine cw_reg_postK (fun t h => t 6 = B c6) (fun K hK => ?_) ?_
  · simp only [go_sem]
    refine icall_fn (k__circuit_state__wire 1000 (circuit_state.mk c t_.Hazards closed 0) t_.Wire _ h_y4) ?_
    simp only [go_sem]
    refine ibr_intro (fun hg7 => ?_) (fun hg7 => ?_)
    · simp only [hg7, Bool.not_true, Bool.not_false, eq_self, if_true, if_false, Bool.true_or, Bool.or_true, Bool.false_or, Bool.or_false, Bool.true_and, Bool.and_true, Bool.false_and, Bool.and_false, Bool.false_eq_true] at h_c6
      obtain ⟨y5, h_y5, h_c6⟩ := bind_get h_c6
      obtain rfl := Option.some.inj h_c6
      simp only [go_sem, hg7]
      refine icall_fn (k__circuit_state__wire 1000 (circuit_state.mk c t_.Hazards 0 0) t_.Wire _ h_y5) ?_
      simp only [go_sem, hg7]
      exact hK _ _ (by first | rfl | simp only [go_sem, hg7, List.length_append, List.map_append])
    · simp only [hg7, Bool.not_true, Bool.not_false, eq_self, if_true, if_false, Bool.true_or, Bool.or_true, Bool.false_or, Bool.or_false, Bool.true_and, Bool.and_true, Bool.false_and, Bool.and_false, Bool.false_eq_true] at h_c6
      obtain rfl := Option.some.inj h_c6
      simp only [go_sem, hg7]
      exact hK _ _ (by first | rfl | simp only [go_sem, hg7, List.length_append, List.map_append])
  · rintro t h s6
    simp only [cw_ret, qseq_ret, qblock_ret, retQ_ret]
    obtain rfl := Option.some.inj hm0
    exact done_t (by simp only [go_sem, s6, List.length_append, List.map_append]) (frz_v _)

end Go.Nw.DM

namespace Go.Nw.DM
open Go.Nw.Door
set_option linter.unusedSimpArgs false
set_option linter.unusedVariables false
variable {O : Orac}

theorem k_circuit_weak (hf : Has O "newel/circuit.weak" x_circuit_weak) (k__circuit_state__wire : C__circuit_state__wire O) : C_circuit_weak O := by
  intro c closed r hm0
  unfold circuit_weak at hm0
  refine fn_cw hf rfl (fz_cons (.agg _ (fz_cons (frz_v _) (fz_cons (frz_fs fun a _ => fz_eI a) (fz_cons (frz_fs fun a _ => fz_eWire a) fz_nil)))) (fz_cons (frz_v _) fz_nil)) (frz_fs fun a _ => fz_eI a) ?_
  refine cw_start (fun t h => t 0 = .agg [I c.Hazards, .fs 1 (List.map eI c.Switches), .fs 2 (List.map eWire c.Wires)] ∧ t 1 = I closed) ⟨rfl, rfl⟩ fun t h ⟨s0, s1⟩ => ?_
  simp only [x_circuit_weak]
  refine cw_reg_seq fun K hK => ?_
  simp only [go_sem, s0]
  refine hK _ _ ?_
  clear hK K
  refine cw_assoc ?_
  refine cw_reg_seq fun K hK => ?_
  simp only [go_sem]
  refine hK _ _ ?_
  clear hK K
  refine cw_seq_k fun K1 hK1 => ?_
  have J2 : ∀ (out_4 : List Int) (v4 : AV) (t : Slots) (h : Heap), t 4 = v4 → OwnS h v4 1 (List.map eI out_4) → circuit_weak_j2 out_4 = some r → K1 t h := by
    intro out_4 v4 t h s4 ow_o4 hm0
    refine hK1 _ _ ?_
    unfold circuit_weak_j2 at hm0
    refine cw_reg_seq fun K hK => ?_
    simp only [go_sem, s4, istr_of v4]
    refine hK _ _ ?_
    clear hK K
    simp only [cw_ret, qseq_ret, qblock_ret, retQ_ret]
    obtain rfl := Option.some.inj hm0
    exact done_fz (v := v4) (by simp only [go_sem, s4, List.length_append, List.map_append]) (fz_own (f := eI) (l := out_4) (own_later ow_o4 (by intro j hj hl; first | rfl | simp only [go_sem, hl]) (by first | omega | (simp only [go_sem, nxs]; omega))) fz_eI ln_eI)
  simp only [cw_block]
  obtain ⟨b3, hl3, hm0⟩ := bind_get hm0
  refine cw_loopM hl3 (fun | (out_4, x_8), t, h => ∃ v4 : AV, t 1 = I closed ∧ t 2 = .fp [I c.Hazards, .fs 1 (List.map eI c.Switches), .fs 2 (List.map eWire c.Wires)] 0 ∧ t 4 = v4 ∧ t 7 = I c.Hazards ∧ t 8 = I x_8 ∧ OwnS h v4 1 (List.map eI out_4)) ?_ ?_
  · exact ⟨(.v (.slice none 0 0)), s1, (by first | rfl | simp only [go_sem, List.length_append, List.map_append]), (by first | rfl | simp only [go_sem, List.length_append, List.map_append]), (by first | rfl | simp only [go_sem, List.length_append, List.map_append]), (by first | rfl | simp only [go_sem, List.length_append, List.map_append]), own_nil'⟩
  · rintro ⟨out_4, x_8⟩ o t h ⟨v4, s1, s2, s4, s7, s8, ow_o4⟩ hm1 hb3
    simp only [circuit_weak_L7] at hm1
    rw [x_circuit_weak_L7]
    refine cw_reg_seq fun K hK => ?_
    simp only [go_sem, s7, s8, istr_of v4]
    refine hK _ _ ?_
    clear hK K
    refine cw_seq_k fun K4 hK4 => ?_
    simp only [go_sem]
    refine ibr_intro (fun hc5 => ?_) (fun hc5 => ?_)
    · rw [if_t hc5] at hm1
      simp only [cw_skip, qblock_normal, qseq_normal]
      refine hK4 _ _ ?_
      refine cw_seq_k fun K6 hK6 => ?_
      have J7 : ∀ (out_4_1 : List Int) (v4_1 : AV) (t : Slots) (h : Heap), t 1 = I closed → t 2 = .fp [I c.Hazards, .fs 1 (List.map eI c.Switches), .fs 2 (List.map eWire c.Wires)] 0 → t 4 = v4_1 → t 7 = I c.Hazards → t 8 = I x_8 → OwnS h v4_1 1 (List.map eI out_4_1) → circuit_weak_j7 x_8 out_4_1 = some o → K6 t h := by
        intro out_4_1 v4_1 t h s1 s2 s4 s7 s8 ow_o4 hm1
        refine hK6 _ _ ?_
        unfold circuit_weak_j7 at hm1
        refine cw_reg_k fun K hK => ?_
        simp only [go_sem, s8, istr_of v4, istr_of v4_1]
        refine hK _ _ ?_
        clear hK K
        simp only [qblock_normal, qseq_normal]
        obtain rfl := Option.some.inj hm1
        refine ⟨_, rfl, ?_⟩
        exact ⟨v4_1, s1, s2, s4, s7, (by first | rfl | exact s8 | simp only [go_sem, s8, List.length_append, List.map_append]), ow_o4⟩
      simp only [cw_block]
      refine cw_reg_seq fun K hK => ?_
      simp only [go_sem, s8, istr_of v4]
      refine hK _ _ ?_
      clear hK K
      obtain ⟨q10, h_q10, hm1⟩ := bind_get hm1
      obtain ⟨y11, h_y11, hm1⟩ := bind_get hm1
      refine cw_reg_seq fun K hK => ?_
      simp only [go_sem, s1, s2, ibin_shl h_q10, istr_of v4]
      refine icall_fn (k__circuit_state__wire 1000 (circuit_state.mk c q10 closed 0) 0 _ h_y11) ?_
      simp only [go_sem, s1, s2, ibin_shl h_q10, istr_of v4]
      refine hK _ _ ?_
      clear hK K
      simp only [go_sem]
      refine ibr_intro (fun hc12 => ?_) (fun hc12 => ?_)
      · rw [if_t hc12] at hm1
        obtain ⟨l14, h_l14, hm1⟩ := bind_get hm1
        refine cw_reg_k fun K hK => ?_
        simp only [go_sem, s4, istr_of v4]
        refine iapp_own (f := eI) (l := out_4) (m := ([x_8])) ?_ ?_ ?_ ?_ h_l14 ?_
        · exact (own_later ow_o4 (by intro j hj hl; first | rfl | simp only [go_sem, hl]) (by first | omega | (simp only [go_sem, nxs]; omega)))
        · exact (ownx_rs (by simp only [go_sem, List.length_append, List.map_append]) (by simp only [go_sem, List.length_append, List.map_append]))
        · exact (nd_rs (by first | exact notid_nil | exact notid_rs (by first | omega | (simp only [nxs]; omega)) | assumption | exact own_notid (by assumption) (by first | omega | (simp only [go_sem, nxs]; omega))))
        · exact (fun _ => by simp)
        simp only [go_sem, s4, istr_of v4]
        refine hK _ _ ?_
        clear hK K
        simp only [qblock_normal, qseq_normal]
        exact J7 l14 (.rs (nxs h.nx) 0 (List.length l14)) _ _ s1 s2 (by first | rfl | exact s4 | simp only [go_sem, s4, List.length_append, List.map_append]) s7 s8 (own_rs (by simp only [go_sem, List.length_append, List.map_append]) (by simp only [go_sem, List.length_append, List.map_append]) (by simp only [go_sem])) hm1
      · rw [if_f hc12] at hm1
        simp only [cw_skip, qblock_normal, qseq_normal]
        exact J7 out_4 v4 _ _ s1 s2 s4 s7 s8 ow_o4 hm1
    · rw [if_f hc5] at hm1
      simp only [cw_exit, qseq_exit, qblock_same, qblock_ne, qblock_normal, qseq_normal, Nat.reduceEqDiff, not_false_eq_true]
      obtain rfl := Option.some.inj hm1
      obtain rfl := hb3 _ rfl
      try dsimp only at hm0
      exact J2 out_4 v4 _ _ s4 ow_o4 hm0

end Go.Nw.DM

namespace Go.Nw.DM
open Go.Nw.Door
set_option linter.unusedSimpArgs false
set_option linter.unusedVariables false
variable {O : Orac}

theorem k_cmp_Compare_int_ (hf : Has O "cmp.Compare[int]" x_cmp_Compare_int_) (k_cmp_isNaN_int_ : C_cmp_isNaN_int_ O) : C_cmp_Compare_int_ O := by
  intro x y
  generalize hm0 : cmp_Compare_int_ x y = r
  unfold cmp_Compare_int_ at hm0
  refine fn_cw hf rfl (fz_cons (frz_v _) (fz_cons (frz_v _) fz_nil)) (frz_v _) ?_
  refine cw_start (fun t h => t 0 = I x ∧ t 1 = I y) ⟨rfl, rfl⟩ fun t h ⟨s0, s1⟩ => ?_
  simp only [x_cmp_Compare_int_]
  refine cw_reg_seq fun K hK => ?_
  simp only [go_sem]
  refine hK _ _ ?_
  clear hK K
  refine cw_reg_seq fun K hK => ?_
  simp only [go_sem, s0]
  refine icall_fn (k_cmp_isNaN_int_ x) ?_
  simp only [go_sem, s0]
  refine hK _ _ ?_
  clear hK K
  refine cw_reg_seq fun K hK => ?_
  simp only [go_sem, s1]
  refine icall_fn (k_cmp_isNaN_int_ y) ?_
  simp only [go_sem, s1]
  refine hK _ _ ?_
  clear hK K
  refine cw_assoc ?_
  refine cw_reg_seq fun K hK => ?_
  simp only [go_sem]
  refine hK _ _ ?_
  clear hK K
  refine cw_seq_k fun K1 hK1 => ?_
  simp only [go_sem]
  refine ibr_intro (fun hc2 => ?_) (fun hc2 => ?_)
  · rw [if_t hc2] at hm0
    refine cw_assoc ?_
    refine cw_reg_seq fun K hK => ?_
    simp only [go_sem]
    refine hK _ _ ?_
    clear hK K
    refine cw_seq_k fun K3 hK3 => ?_
    simp only [go_sem]
    refine ibr_intro (fun hc4 => ?_) (fun hc4 => ?_)
    · rw [if_t hc4] at hm0
      refine cw_reg_seq fun K hK => ?_
      simp only [go_sem]
      refine hK _ _ ?_
      clear hK K
      simp only [cw_ret, qseq_ret, qblock_ret, retQ_ret]
      obtain rfl := hm0
      exact done_t (by simp only [go_sem, List.length_append, List.map_append]) (frz_v _)
    · rw [if_f hc4] at hm0
      simp only [cw_skip, qblock_normal, qseq_normal]
      refine hK3 _ _ ?_
      refine cw_reg_seq fun K hK => ?_
      simp only [go_sem]
      refine hK _ _ ?_
      clear hK K
      simp only [cw_ret, qseq_ret, qblock_ret, retQ_ret]
      obtain rfl := hm0
      exact done_t (by simp only [go_sem, List.length_append, List.map_append]) (frz_v _)
  · rw [if_f hc2] at hm0
    simp only [cw_skip, qblock_normal, qseq_normal]
    refine hK1 _ _ ?_
    refine cw_assoc ?_
    refine cw_reg_seq fun K hK => ?_
    simp only [go_sem]
    refine hK _ _ ?_
    clear hK K
    refine cw_seq_k fun K5 hK5 => ?_
    simp only [go_sem]
    refine ibr_intro (fun hc6 => ?_) (fun hc6 => ?_)
    · rw [if_t hc6] at hm0
      refine cw_reg_seq fun K hK => ?_
      simp only [go_sem]
      refine hK _ _ ?_
      clear hK K
      simp only [cw_ret, qseq_ret, qblock_ret, retQ_ret]
      obtain rfl := hm0
      exact done_t (by simp only [go_sem, List.length_append, List.map_append]) (frz_v _)
    · rw [if_f hc6] at hm0
      simp only [cw_skip, qblock_normal, qseq_normal]
      refine hK5 _ _ ?_
      refine cw_assoc ?_
      refine cw_reg_seq fun K hK => ?_
      simp only [go_sem, s0, s1]
      refine hK _ _ ?_
      clear hK K
      refine cw_seq_k fun K7 hK7 => ?_
      simp only [go_sem]
      refine ibr_intro (fun hc8 => ?_) (fun hc8 => ?_)
      · rw [if_t hc8] at hm0
        refine cw_reg_seq fun K hK => ?_
        simp only [go_sem]
        refine hK _ _ ?_
        clear hK K
        simp only [cw_ret, qseq_ret, qblock_ret, retQ_ret]
        obtain rfl := hm0
        exact done_t (by simp only [go_sem, List.length_append, List.map_append]) (frz_v _)
      · rw [if_f hc8] at hm0
        simp only [cw_skip, qblock_normal, qseq_normal]
        refine hK7 _ _ ?_
        refine cw_assoc ?_
        refine cw_reg_seq fun K hK => ?_
        simp only [go_sem, s0, s1]
        refine hK _ _ ?_
        clear hK K
        refine cw_seq_k fun K9 hK9 => ?_
        simp only [go_sem]
        refine ibr_intro (fun hc10 => ?_) (fun hc10 => ?_)
        · rw [if_t hc10] at hm0
          refine cw_reg_seq fun K hK => ?_
          simp only [go_sem]
          refine hK _ _ ?_
          clear hK K
          simp only [cw_ret, qseq_ret, qblock_ret, retQ_ret]
          obtain rfl := hm0
          exact done_t (by simp only [go_sem, List.length_append, List.map_append]) (frz_v _)
        · rw [if_f hc10] at hm0
          simp only [cw_skip, qblock_normal, qseq_normal]
          refine hK9 _ _ ?_
          refine cw_reg_seq fun K hK => ?_
          simp only [go_sem]
          refine hK _ _ ?_
          clear hK K
          simp only [cw_ret, qseq_ret, qblock_ret, retQ_ret]
          obtain rfl := hm0
          exact done_t (by simp only [go_sem, List.length_append, List.map_append]) (frz_v _)

end Go.Nw.DM

namespace Go.Nw.DM
open Go.Nw.Door
set_option linter.unusedSimpArgs false
set_option linter.unusedVariables false
variable {O : Orac}

theorem k_cmp_isNaN_int_ (hf : Has O "cmp.isNaN[int]" x_cmp_isNaN_int_) : C_cmp_isNaN_int_ O := by
  intro x
  generalize hm0 : cmp_isNaN_int_ x = r
  unfold cmp_isNaN_int_ at hm0
  refine fn_cw hf rfl (fz_cons (frz_v _) fz_nil) (frz_v _) ?_
  refine cw_start (fun t h => t 0 = I x) rfl fun t h s0 => ?_
  simp only [x_cmp_isNaN_int_]
  refine cw_reg_seq fun K hK => ?_
  simp only [go_sem]
  refine hK _ _ ?_
  clear hK K
  refine cw_reg_seq fun K hK => ?_
  simp only [go_sem, s0]
  refine hK _ _ ?_
  clear hK K
  simp only [cw_ret, qseq_ret, qblock_ret, retQ_ret]
  obtain rfl := hm0
  exact done_t (by simp only [go_sem, List.length_append, List.map_append]) (frz_v _)

end Go.Nw.DM

namespace Go.Nw.DM
open Go.Nw.Door
set_option linter.unusedSimpArgs false
set_option linter.unusedVariables false
variable {O : Orac}

theorem k_l03_CircuitTrials (hf : Has O "newel/newellaw03.CircuitTrials" x_l03_CircuitTrials) (k_l03_Far : C_l03_Far O) (k_l03_works : C_l03_works O) (k_circuit_Shows : C_circuit_Shows O) (k_r03_Shows : C_r03_Shows O) (k_l03_sameInts : C_l03_sameInts O) (k_circuit_Blind : C_circuit_Blind O) (k_r03_Blind : C_r03_Blind O) (k_circuit_Fewest : C_circuit_Fewest O) (k_r03_Fewest : C_r03_Fewest O) : C_l03_CircuitTrials O := by
  intro c l trial r hm0
  unfold l03_CircuitTrials at hm0
  refine fn_cw hf rfl (fz_cons (.agg _ (fz_cons (frz_v _) (fz_cons (frz_fs fun a _ => fz_eI a) (fz_cons (frz_fs fun a _ => fz_eWire a) fz_nil)))) (fz_cons (frz_fs fun a _ => fz_eTrial a) (fz_cons (frz_v _) fz_nil))) (frz_v _) ?_
  refine cw_start (fun t h => t 0 = .agg [I c.Hazards, .fs 1 (List.map eI c.Switches), .fs 2 (List.map eWire c.Wires)] ∧ t 1 = .fs 2 (List.map eTrial l) ∧ t 2 = I trial) ⟨rfl, rfl, rfl⟩ fun t h ⟨s0, s1, s2⟩ => ?_
  simp only [x_l03_CircuitTrials]
  refine cw_reg_seq fun K hK => ?_
  simp only [go_sem, s0]
  refine hK _ _ ?_
  clear hK K
  refine cw_assoc ?_
  obtain ⟨y2, h_y2, hm0⟩ := bind_get hm0
  refine cw_reg_postK (fun t h => t 1 = .fs 2 (List.map eTrial l) ∧ t 2 = I trial ∧ t 3 = .fp [I c.Hazards, .fs 1 (List.map eI c.Switches), .fs 2 (List.map eWire c.Wires)] 0 ∧ t 17 = B (y2 || (decide (20 < (List.length l : Int))))) (fun K hK => ?_) ?_
  · simp only [go_sem, s1]
    refine icall_fn (k_l03_Far c _ h_y2) ?_
    simp only [go_sem, s1]
    refine ibr_intro (fun hg3 => ?_) (fun hg3 => ?_)
    · simp only [go_sem, s1, hg3]
      exact hK _ _ ⟨s1, s2, (by first | rfl | simp only [go_sem, hg3, List.length_append, List.map_append]), (by first | rfl | simp only [go_sem, hg3, List.length_append, List.map_append])⟩
    · simp only [go_sem, s1, hg3]
      exact hK _ _ ⟨s1, s2, (by first | rfl | simp only [go_sem, hg3, List.length_append, List.map_append]), (by first | rfl | simp only [go_sem, hg3, List.length_append, List.map_append])⟩
  · rintro t h ⟨s1, s2, s3, s17⟩
    refine cw_seq_k fun K4 hK4 => ?_
    simp only [go_sem, s17]
    refine ibr_intro (fun hc5 => ?_) (fun hc5 => ?_)
    · rw [if_t hc5] at hm0
      obtain ⟨y7, h_y7, hm0⟩ := bind_get hm0
      refine cw_reg_seq fun K hK => ?_
      simp only [go_sem]
      refine icall_fn (k_l03_works  _ h_y7) ?_
      simp only [go_sem]
      refine hK _ _ ?_
      clear hK K
      simp only [cw_ret, qseq_ret, qblock_ret, retQ_ret]
      obtain rfl := Option.some.inj hm0
      exact done_t (by simp only [go_sem, List.length_append, List.map_append]) (frz_v _)
    · rw [if_f hc5] at hm0
      simp only [cw_skip, qblock_normal, qseq_normal]
      refine hK4 _ _ ?_
      obtain ⟨y9, h_y9, hm0⟩ := bind_get hm0
      refine cw_reg_seq fun K hK => ?_
      simp only [go_sem, s1, s2, s3]
      refine icall_fn (k_circuit_Shows c l trial _ h_y9) ?_
      simp only [go_sem, s1, s2, s3]
      refine hK _ _ ?_
      clear hK K
      obtain ⟨y11, h_y11, hm0⟩ := bind_get hm0
      refine cw_reg_seq fun K hK => ?_
      simp only [go_sem, s1, s2, s3]
      refine icall_fn (k_r03_Shows c l trial _ h_y11) ?_
      simp only [go_sem, s1, s2, s3]
      refine hK _ _ ?_
      clear hK K
      refine cw_assoc ?_
      obtain ⟨c15, h_c15, hm0⟩ := bind_get hm0
      refine cw_reg_postK (fun t h => t 1 = .fs 2 (List.map eTrial l) ∧ t 3 = .fp [I c.Hazards, .fs 1 (List.map eI c.Switches), .fs 2 (List.map eWire c.Wires)] 0 ∧ t 41 = B c15) (fun K hK => ?_) ?_
      · simp only [go_sem]
        refine ibr_intro (fun hg16 => ?_) (fun hg16 => ?_)
        · simp only [hg16, Bool.not_true, Bool.not_false, eq_self, if_true, if_false, Bool.true_or, Bool.or_true, Bool.false_or, Bool.or_false, Bool.true_and, Bool.and_true, Bool.false_and, Bool.and_false, Bool.false_eq_true] at h_c15
          obtain rfl := Option.some.inj h_c15
          simp only [go_sem, hg16]
          exact hK _ _ ⟨s1, s3, (by first | rfl | simp only [go_sem, hg16, List.length_append, List.map_append])⟩
        · simp only [hg16, Bool.not_true, Bool.not_false, eq_self, if_true, if_false, Bool.true_or, Bool.or_true, Bool.false_or, Bool.or_false, Bool.true_and, Bool.and_true, Bool.false_and, Bool.and_false, Bool.false_eq_true] at h_c15
          obtain ⟨y14, h_y14, h_c15⟩ := bind_get h_c15
          obtain rfl := Option.some.inj h_c15
          simp only [go_sem, hg16]
          refine icall_fn (k_l03_sameInts y9.1 y11.1 _ h_y14) ?_
          simp only [go_sem, hg16]
          exact hK _ _ ⟨s1, s3, (by first | rfl | simp only [go_sem, hg16, List.length_append, List.map_append])⟩
      · rintro t h ⟨s1, s3, s41⟩
        refine cw_seq_k fun K17 hK17 => ?_
        simp only [go_sem, s41]
        refine ibr_intro (fun hc18 => ?_) (fun hc18 => ?_)
        · rw [if_t hc18] at hm0
          refine cw_reg_seq fun K hK => ?_
          simp only [go_sem]
          refine hK _ _ ?_
          clear hK K
          simp only [cw_ret, qseq_ret, qblock_ret, retQ_ret]
          obtain rfl := Option.some.inj hm0
          exact done_t (by simp only [go_sem, List.length_append, List.map_append]) (frz_v _)
        · rw [if_f hc18] at hm0
          simp only [cw_skip, qblock_normal, qseq_normal]
          refine hK17 _ _ ?_
          obtain ⟨y20, h_y20, hm0⟩ := bind_get hm0
          refine cw_reg_seq fun K hK => ?_
          simp only [go_sem, s1, s3]
          refine icall_fn (k_circuit_Blind c l _ h_y20) ?_
          simp only [go_sem, s1, s3]
          refine hK _ _ ?_
          clear hK K
          obtain ⟨y22, h_y22, hm0⟩ := bind_get hm0
          refine cw_reg_seq fun K hK => ?_
          simp only [go_sem, s1, s3]
          refine icall_fn (k_r03_Blind c l _ h_y22) ?_
          simp only [go_sem, s1, s3]
          refine hK _ _ ?_
          clear hK K
          refine cw_assoc ?_
          obtain ⟨c26, h_c26, hm0⟩ := bind_get hm0
          refine cw_reg_postK (fun t h => t 1 = .fs 2 (List.map eTrial l) ∧ t 3 = .fp [I c.Hazards, .fs 1 (List.map eI c.Switches), .fs 2 (List.map eWire c.Wires)] 0 ∧ t 62 = B c26) (fun K hK => ?_) ?_
          · simp only [go_sem]
            refine ibr_intro (fun hg27 => ?_) (fun hg27 => ?_)
            · simp only [hg27, Bool.not_true, Bool.not_false, eq_self, if_true, if_false, Bool.true_or, Bool.or_true, Bool.false_or, Bool.or_false, Bool.true_and, Bool.and_true, Bool.false_and, Bool.and_false, Bool.false_eq_true] at h_c26
              obtain rfl := Option.some.inj h_c26
              simp only [go_sem, hg27]
              exact hK _ _ ⟨s1, s3, (by first | rfl | simp only [go_sem, hg27, List.length_append, List.map_append])⟩
            · simp only [hg27, Bool.not_true, Bool.not_false, eq_self, if_true, if_false, Bool.true_or, Bool.or_true, Bool.false_or, Bool.or_false, Bool.true_and, Bool.and_true, Bool.false_and, Bool.and_false, Bool.false_eq_true] at h_c26
              obtain ⟨y25, h_y25, h_c26⟩ := bind_get h_c26
              obtain rfl := Option.some.inj h_c26
              simp only [go_sem, hg27]
              refine icall_fn (k_l03_sameInts y20.1 y22.1 _ h_y25) ?_
              simp only [go_sem, hg27]
              exact hK _ _ ⟨s1, s3, (by first | rfl | simp only [go_sem, hg27, List.length_append, List.map_append])⟩
          · rintro t h ⟨s1, s3, s62⟩
            refine cw_seq_k fun K28 hK28 => ?_
            simp only [go_sem, s62]
            refine ibr_intro (fun hc29 => ?_) (fun hc29 => ?_)
            · rw [if_t hc29] at hm0
              refine cw_reg_seq fun K hK => ?_
              simp only [go_sem]
              refine hK _ _ ?_
              clear hK K
              simp only [cw_ret, qseq_ret, qblock_ret, retQ_ret]
              obtain rfl := Option.some.inj hm0
              exact done_t (by simp only [go_sem, List.length_append, List.map_append]) (frz_v _)
            · rw [if_f hc29] at hm0
              simp only [cw_skip, qblock_normal, qseq_normal]
              refine hK28 _ _ ?_
              obtain ⟨y31, h_y31, hm0⟩ := bind_get hm0
              refine cw_reg_seq fun K hK => ?_
              simp only [go_sem, s1, s3]
              refine icall_fn (k_circuit_Fewest c l _ h_y31) ?_
              simp only [go_sem, s1, s3]
              refine hK _ _ ?_
              clear hK K
              obtain ⟨y33, h_y33, hm0⟩ := bind_get hm0
              refine cw_reg_seq fun K hK => ?_
              simp only [go_sem, s1, s3]
              refine icall_fn (k_r03_Fewest c l _ h_y33) ?_
              simp only [go_sem, s1, s3]
              refine hK _ _ ?_
              clear hK K
              obtain ⟨c39, h_c39, hm0⟩ := bind_get hm0
              obtain ⟨c41, h_c41, hm0⟩ := bind_get hm0
              refine cw_reg_postK (fun t h => t 6 = B c41) (fun K hK => ?_) ?_
              · simp only [go_sem]
                refine ibr_intro (fun hg42 => ?_) (fun hg42 => ?_)
                · simp only [hg42, Bool.not_true, Bool.not_false, eq_self, if_true, if_false, Bool.true_or, Bool.or_true, Bool.false_or, Bool.or_false, Bool.true_and, Bool.and_true, Bool.false_and, Bool.and_false, Bool.false_eq_true] at h_c39
                  obtain ⟨y38, h_y38, h_c39⟩ := bind_get h_c39
                  obtain rfl := Option.some.inj h_c39
                  simp only [go_sem, hg42]
                  refine icall_fn (k_l03_sameInts y31.1 y33.1 _ h_y38) ?_
                  simp only [go_sem, hg42]
                  refine ibr_intro (fun hg43 => ?_) (fun hg43 => ?_)
                  · simp only [hg42, hg43, Bool.not_true, Bool.not_false, eq_self, if_true, if_false, Bool.true_or, Bool.or_true, Bool.false_or, Bool.or_false, Bool.true_and, Bool.and_true, Bool.false_and, Bool.and_false, Bool.false_eq_true] at h_c41
                    obtain ⟨y40, h_y40, h_c41⟩ := bind_get h_c41
                    obtain rfl := Option.some.inj h_c41
                    simp only [go_sem, hg42, hg43]
                    refine icall_fn (k_l03_works  _ h_y40) ?_
                    simp only [go_sem, hg42, hg43]
                    exact hK _ _ (by first | rfl | simp only [go_sem, hg42, hg43, List.length_append, List.map_append])
                  · simp only [hg42, hg43, Bool.not_true, Bool.not_false, eq_self, if_true, if_false, Bool.true_or, Bool.or_true, Bool.false_or, Bool.or_false, Bool.true_and, Bool.and_true, Bool.false_and, Bool.and_false, Bool.false_eq_true] at h_c41
                    obtain rfl := Option.some.inj h_c41
                    simp only [go_sem, hg42, hg43]
                    exact hK _ _ (by first | rfl | simp only [go_sem, hg42, hg43, List.length_append, List.map_append])
                · simp only [hg42, Bool.not_true, Bool.not_false, eq_self, if_true, if_false, Bool.true_or, Bool.or_true, Bool.false_or, Bool.or_false, Bool.true_and, Bool.and_true, Bool.false_and, Bool.and_false, Bool.false_eq_true] at h_c39
                  obtain rfl := Option.some.inj h_c39
                  simp only [hg42, Bool.not_true, Bool.not_false, eq_self, if_true, if_false, Bool.true_or, Bool.or_true, Bool.false_or, Bool.or_false, Bool.true_and, Bool.and_true, Bool.false_and, Bool.and_false, Bool.false_eq_true] at h_c41
                  obtain rfl := Option.some.inj h_c41
                  simp only [go_sem, hg42]
                  exact hK _ _ (by first | rfl | simp only [go_sem, hg42, List.length_append, List.map_append])
              · rintro t h s6
                simp only [cw_ret, qseq_ret, qblock_ret, retQ_ret]
                obtain rfl := Option.some.inj hm0
                exact done_t (by simp only [go_sem, s6, List.length_append, List.map_append]) (frz_v _)

end Go.Nw.DM

namespace Go.Nw.DM
open Go.Nw.Door
set_option linter.unusedSimpArgs false
set_option linter.unusedVariables false
variable {O : Orac}

theorem k_l03_Example (hf : Has O "newel/newellaw03.Example" x_l03_Example) : C_l03_Example O := by
  intro _
  generalize hm0 : l03_Example = r
  unfold l03_Example at hm0
  refine fn_cw hf rfl fz_nil (.tup _ (fz_cons (.agg _ (fz_cons (frz_v _) (fz_cons (frz_fs fun a _ => fz_eI a) (fz_cons (frz_fs fun a _ => fz_eWire a) fz_nil)))) (fz_cons (frz_fs fun a _ => fz_eTrial a) fz_nil))) ?_
  refine cw_start (fun t h => True) trivial fun t h _ => ?_
  simp only [x_l03_Example]
  refine cw_reg_seq fun K hK => ?_
  simp only [go_sem]
  refine hK _ _ ?_
  clear hK K
  refine cw_reg_seq fun K hK => ?_
  simp only [go_sem]
  refine hK _ _ ?_
  clear hK K
  refine cw_reg_seq fun K hK => ?_
  simp only [go_sem]
  refine hK _ _ ?_
  clear hK K
  simp only [cw_ret, qseq_ret, qblock_ret, retQ_ret]
  obtain rfl := hm0
  exact done_cell2 (id := h.nx) (m := 3) (cs := [I 2, .rs (nxs h.nx) 0 (4), .rs (nxs (nxs (nxs (nxs (nxs (nxs (nxs h.nx))))))) 0 5]) (u := .rs (nxs (nxs (nxs (nxs (nxs (nxs (nxs (nxs (nxs h.nx))))))))) 0 (4)) (by simp only [go_sem, List.length_append, List.map_append]) (by simp only [go_sem, List.length_append, List.map_append]) rfl (by simp only [go_sem, List.length_append, List.map_append]) (fz_agg (.cons (.refl _ (frz_v _)) (.cons (fz_rs (f := eI) (l := ([1, 1, 2, 2])) (by simp only [go_sem, List.length_append, List.map_append]) (by first | rfl | simp only [go_sem, List.length_append, List.map_append]) fz_eI ln_eI) (.cons (fz_lit (rows := [[I 2, .rs (nxs (nxs h.nx)) 0 (4)], [I 1, .rs (nxs (nxs (nxs h.nx))) 0 (1)], [I 1, .rs (nxs (nxs (nxs (nxs h.nx)))) 0 (1)], [I 1, .rs (nxs (nxs (nxs (nxs (nxs h.nx))))) 0 (1)], [I 1, .rs (nxs (nxs (nxs (nxs (nxs (nxs h.nx)))))) 0 (1)]]) (by simp only [go_sem]) rfl (.cons (.cons (.refl _ (frz_v _)) (.cons (fz_rs (f := eI) (l := ([1, 2, 3, 4])) (by simp only [go_sem, List.length_append, List.map_append]) (by first | rfl | simp only [go_sem, List.length_append, List.map_append]) fz_eI ln_eI) (.nil))) (.cons (.cons (.refl _ (frz_v _)) (.cons (fz_rs (f := eI) (l := ([0])) (by simp only [go_sem, List.length_append, List.map_append]) (by first | rfl | simp only [go_sem, List.length_append, List.map_append]) fz_eI ln_eI) (.nil))) (.cons (.cons (.refl _ (frz_v _)) (.cons (fz_rs (f := eI) (l := ([1])) (by simp only [go_sem, List.length_append, List.map_append]) (by first | rfl | simp only [go_sem, List.length_append, List.map_append]) fz_eI ln_eI) (.nil))) (.cons (.cons (.refl _ (frz_v _)) (.cons (fz_rs (f := eI) (l := ([2])) (by simp only [go_sem, List.length_append, List.map_append]) (by first | rfl | simp only [go_sem, List.length_append, List.map_append]) fz_eI ln_eI) (.nil))) (.cons (.cons (.refl _ (frz_v _)) (.cons (fz_rs (f := eI) (l := ([3])) (by simp only [go_sem, List.length_append, List.map_append]) (by first | rfl | simp only [go_sem, List.length_append, List.map_append]) fz_eI ln_eI) (.nil))) (.nil)))))) (by intro d hd; obtain ⟨x, _, rfl⟩ := List.mem_map.1 hd; exact ln_eWire x)) (.nil))))) (fz_rs (f := eTrial) (l := ([(Trial.mk 1 1), (Trial.mk 1 2), (Trial.mk 2 3), (Trial.mk 2 4)])) (by simp only [go_sem, List.length_append, List.map_append]) (by first | rfl | simp only [go_sem, List.length_append, List.map_append]) fz_eTrial ln_eTrial)

end Go.Nw.DM

namespace Go.Nw.DM
open Go.Nw.Door
set_option linter.unusedSimpArgs false
set_option linter.unusedVariables false
variable {O : Orac}

theorem k_l03_Far (hf : Has O "newel/newellaw03.Far" x_l03_Far) : C_l03_Far O := by
  intro c r hm0
  unfold l03_Far at hm0
  refine fn_cw hf rfl (fz_cons (.agg _ (fz_cons (frz_v _) (fz_cons (frz_fs fun a _ => fz_eI a) (fz_cons (frz_fs fun a _ => fz_eWire a) fz_nil)))) fz_nil) (frz_v _) ?_
  refine cw_start (fun t h => t 0 = .agg [I c.Hazards, .fs 1 (List.map eI c.Switches), .fs 2 (List.map eWire c.Wires)]) rfl fun t h s0 => ?_
  simp only [x_l03_Far]
  refine cw_reg_seq fun K hK => ?_
  simp only [go_sem, s0]
  refine hK _ _ ?_
  clear hK K
  refine cw_assoc ?_
  refine cw_reg_postK (fun t h => t 1 = .fp [I c.Hazards, .fs 1 (List.map eI c.Switches), .fs 2 (List.map eWire c.Wires)] 0 ∧ t 13 = B ((decide (20 < (List.length c.Switches : Int))) || (decide (40 < (List.length c.Wires : Int))))) (fun K hK => ?_) ?_
  · simp only [go_sem]
    refine ibr_intro (fun hg1 => ?_) (fun hg1 => ?_)
    · simp only [go_sem, hg1]
      exact hK _ _ ⟨(by first | rfl | simp only [go_sem, hg1, List.length_append, List.map_append]), (by first | rfl | simp only [go_sem, hg1, List.length_append, List.map_append])⟩
    · simp only [go_sem, hg1]
      exact hK _ _ ⟨(by first | rfl | simp only [go_sem, hg1, List.length_append, List.map_append]), (by first | rfl | simp only [go_sem, hg1, List.length_append, List.map_append])⟩
  · rintro t h ⟨s1, s13⟩
    refine cw_seq_k fun K2 hK2 => ?_
    simp only [go_sem, s13]
    refine ibr_intro (fun hc3 => ?_) (fun hc3 => ?_)
    · rw [if_t hc3] at hm0
      refine cw_reg_seq fun K hK => ?_
      simp only [go_sem]
      refine hK _ _ ?_
      clear hK K
      simp only [cw_ret, qseq_ret, qblock_ret, retQ_ret]
      obtain rfl := Option.some.inj hm0
      exact done_t (by simp only [go_sem, List.length_append, List.map_append]) (frz_v _)
    · rw [if_f hc3] at hm0
      simp only [cw_skip, qblock_normal, qseq_normal]
      refine hK2 _ _ ?_
      refine cw_assoc ?_
      refine cw_reg_seq fun K hK => ?_
      simp only [go_sem]
      refine hK _ _ ?_
      clear hK K
      refine cw_seq_k fun K4 hK4 => ?_
      have J5 : ∀ (t : Slots) (h : Heap), l03_Far_j5 = some r → K4 t h := by
        intro t h hm0
        refine hK4 _ _ ?_
        unfold l03_Far_j5 at hm0
        refine cw_reg_seq fun K hK => ?_
        simp only [go_sem]
        refine hK _ _ ?_
        clear hK K
        simp only [cw_ret, qseq_ret, qblock_ret, retQ_ret]
        obtain rfl := Option.some.inj hm0
        exact done_t (by simp only [go_sem, List.length_append, List.map_append]) (frz_v _)
      simp only [cw_block]
      obtain ⟨b6, hl6, hm0⟩ := bind_get hm0
      refine cw_loopM hl6 (fun | i_3, t, h => t 1 = .fp [I c.Hazards, .fs 1 (List.map eI c.Switches), .fs 2 (List.map eWire c.Wires)] 0 ∧ t 3 = I i_3) ?_ ?_
      · exact ⟨s1, (by first | rfl | simp only [go_sem, List.length_append, List.map_append])⟩
      · rintro i_3 o t h ⟨s1, s3⟩ hm1 hb6
        simp only [l03_Far_L8] at hm1
        rw [x_l03_Far_L8]
        refine cw_assoc ?_
        refine cw_reg_seq fun K hK => ?_
        simp only [go_sem, s1, s3]
        refine hK _ _ ?_
        clear hK K
        refine cw_seq_k fun K7 hK7 => ?_
        simp only [go_sem]
        refine ibr_intro (fun hc8 => ?_) (fun hc8 => ?_)
        · rw [if_t hc8] at hm1
          simp only [cw_skip, qblock_normal, qseq_normal]
          refine hK7 _ _ ?_
          refine cw_seq_k fun K9 hK9 => ?_
          simp only [cw_block]
          obtain ⟨x11, h_x11, hm1⟩ := bind_get hm1
          have h_x110 := get_nn h_x11
          have h_x111 := get_lt h_x11
          refine cw_reg_seq fun K hK => ?_
          simp only [go_sem, s1, s3, ielem_get h_x11, irow_get h_x11, h_x110, h_x111]
          refine hK _ _ ?_
          clear hK K
          simp only [go_sem]
          refine ibr_intro (fun hc12 => ?_) (fun hc12 => ?_)
          · rw [if_t hc12] at hm1
            refine cw_reg_seq fun K hK => ?_
            simp only [go_sem]
            refine hK _ _ ?_
            clear hK K
            simp only [cw_ret, qseq_ret, qblock_ret, retQ_ret]
            obtain rfl := Option.some.inj hm1
            obtain rfl := hb6 _ rfl
            try dsimp only at hm0
            obtain rfl := Option.some.inj hm0
            exact done_t (by simp only [go_sem, List.length_append, List.map_append]) (frz_v _)
          · rw [if_f hc12] at hm1
            simp only [cw_skip, qblock_normal, qseq_normal]
            refine hK9 _ _ ?_
            refine cw_reg_k fun K hK => ?_
            simp only [go_sem, s3]
            refine hK _ _ ?_
            clear hK K
            simp only [qblock_normal, qseq_normal]
            obtain rfl := Option.some.inj hm1
            refine ⟨_, rfl, ?_⟩
            exact ⟨s1, (by first | rfl | exact s3 | simp only [go_sem, s3, List.length_append, List.map_append])⟩
        · rw [if_f hc8] at hm1
          simp only [cw_exit, qseq_exit, qblock_same, qblock_ne, qblock_normal, qseq_normal, Nat.reduceEqDiff, not_false_eq_true]
          obtain rfl := Option.some.inj hm1
          obtain rfl := hb6 _ rfl
          try dsimp only at hm0
          exact J5  _ _  hm0

end Go.Nw.DM

namespace Go.Nw.DM
open Go.Nw.Door
set_option linter.unusedSimpArgs false
set_option linter.unusedVariables false
variable {O : Orac}

theorem k_l03_sameInts (hf : Has O "newel/newellaw03.sameInts" x_l03_sameInts) : C_l03_sameInts O := by
  intro a b r hm0
  unfold l03_sameInts at hm0
  refine fn_cw hf rfl (fz_cons (frz_fs fun a _ => fz_eI a) (fz_cons (frz_fs fun a _ => fz_eI a) fz_nil)) (frz_v _) ?_
  refine cw_start (fun t h => t 0 = .fs 1 (List.map eI a) ∧ t 1 = .fs 1 (List.map eI b)) ⟨rfl, rfl⟩ fun t h ⟨s0, s1⟩ => ?_
  simp only [x_l03_sameInts]
  refine cw_reg_seq fun K hK => ?_
  simp only [go_sem]
  refine hK _ _ ?_
  clear hK K
  refine cw_assoc ?_
  refine cw_reg_seq fun K hK => ?_
  simp only [go_sem, s0, s1]
  refine hK _ _ ?_
  clear hK K
  refine cw_seq_k fun K1 hK1 => ?_
  simp only [go_sem]
  refine ibr_intro (fun hc2 => ?_) (fun hc2 => ?_)
  · rw [if_t hc2] at hm0
    refine cw_reg_seq fun K hK => ?_
    simp only [go_sem]
    refine hK _ _ ?_
    clear hK K
    simp only [cw_ret, qseq_ret, qblock_ret, retQ_ret]
    obtain rfl := Option.some.inj hm0
    exact done_t (by simp only [go_sem, List.length_append, List.map_append]) (frz_v _)
  · rw [if_f hc2] at hm0
    simp only [cw_skip, qblock_normal, qseq_normal]
    refine hK1 _ _ ?_
    refine cw_assoc ?_
    refine cw_reg_seq fun K hK => ?_
    simp only [go_sem]
    refine hK _ _ ?_
    clear hK K
    refine cw_seq_k fun K3 hK3 => ?_
    have J4 : ∀ (t : Slots) (h : Heap), l03_sameInts_j4 = some r → K3 t h := by
      intro t h hm0
      refine hK3 _ _ ?_
      unfold l03_sameInts_j4 at hm0
      refine cw_reg_seq fun K hK => ?_
      simp only [go_sem]
      refine hK _ _ ?_
      clear hK K
      simp only [cw_ret, qseq_ret, qblock_ret, retQ_ret]
      obtain rfl := Option.some.inj hm0
      exact done_t (by simp only [go_sem, List.length_append, List.map_append]) (frz_v _)
    simp only [cw_block]
    obtain ⟨b5, hl5, hm0⟩ := bind_get hm0
    refine cw_loopM hl5 (fun | i_5, t, h => t 0 = .fs 1 (List.map eI a) ∧ t 1 = .fs 1 (List.map eI b) ∧ t 5 = I i_5) ?_ ?_
    · exact ⟨s0, s1, (by first | rfl | simp only [go_sem, List.length_append, List.map_append])⟩
    · rintro i_5 o t h ⟨s0, s1, s5⟩ hm1 hb5
      simp only [l03_sameInts_L8] at hm1
      rw [x_l03_sameInts_L8]
      refine cw_assoc ?_
      refine cw_reg_seq fun K hK => ?_
      simp only [go_sem, s0, s5]
      refine hK _ _ ?_
      clear hK K
      refine cw_seq_k fun K6 hK6 => ?_
      simp only [go_sem]
      refine ibr_intro (fun hc7 => ?_) (fun hc7 => ?_)
      · rw [if_t hc7] at hm1
        simp only [cw_skip, qblock_normal, qseq_normal]
        refine hK6 _ _ ?_
        refine cw_seq_k fun K8 hK8 => ?_
        simp only [cw_block]
        obtain ⟨x11, h_x11, hm1⟩ := bind_get hm1
        have h_x110 := get_nn h_x11
        have h_x111 := get_lt h_x11
        obtain ⟨x12, h_x12, hm1⟩ := bind_get hm1
        have h_x120 := get_nn h_x12
        have h_x121 := get_lt h_x12
        refine cw_reg_seq fun K hK => ?_
        simp only [go_sem, s0, s1, s5, ielem_get h_x11, irow_get h_x11, h_x110, h_x111, ielem_get h_x12, irow_get h_x12, h_x120, h_x121]
        refine hK _ _ ?_
        clear hK K
        simp only [go_sem]
        refine ibr_intro (fun hc13 => ?_) (fun hc13 => ?_)
        · rw [if_t hc13] at hm1
          refine cw_reg_seq fun K hK => ?_
          simp only [go_sem]
          refine hK _ _ ?_
          clear hK K
          simp only [cw_ret, qseq_ret, qblock_ret, retQ_ret]
          obtain rfl := Option.some.inj hm1
          obtain rfl := hb5 _ rfl
          try dsimp only at hm0
          obtain rfl := Option.some.inj hm0
          exact done_t (by simp only [go_sem, List.length_append, List.map_append]) (frz_v _)
        · rw [if_f hc13] at hm1
          simp only [cw_skip, qblock_normal, qseq_normal]
          refine hK8 _ _ ?_
          refine cw_reg_k fun K hK => ?_
          simp only [go_sem, s5]
          refine hK _ _ ?_
          clear hK K
          simp only [qblock_normal, qseq_normal]
          obtain rfl := Option.some.inj hm1
          refine ⟨_, rfl, ?_⟩
          exact ⟨s0, s1, (by first | rfl | exact s5 | simp only [go_sem, s5, List.length_append, List.map_append])⟩
      · rw [if_f hc7] at hm1
        simp only [cw_exit, qseq_exit, qblock_same, qblock_ne, qblock_normal, qseq_normal, Nat.reduceEqDiff, not_false_eq_true]
        obtain rfl := Option.some.inj hm1
        obtain rfl := hb5 _ rfl
        try dsimp only at hm0
        exact J4  _ _  hm0

end Go.Nw.DM

namespace Go.Nw.DM
open Go.Nw.Door
set_option linter.unusedSimpArgs false
set_option linter.unusedVariables false
variable {O : Orac}

theorem k_l03_works (hf : Has O "newel/newellaw03.works" x_l03_works) (k_l03_Example : C_l03_Example O) (k_circuit_Pairs : C_circuit_Pairs O) (k_circuit_CheckRota : C_circuit_CheckRota O) : C_l03_works O := by
  intro r hm0
  unfold l03_works at hm0
  refine fn_cw hf rfl fz_nil (frz_v _) ?_
  refine cw_start (fun t h => True) trivial fun t h _ => ?_
  simp only [x_l03_works]
  refine cw_reg_seq fun K hK => ?_
  simp only [go_sem]
  refine hK _ _ ?_
  clear hK K
  refine cw_reg_seq fun K hK => ?_
  simp only [go_sem]
  refine icall_fn (k_l03_Example ()) ?_
  simp only [go_sem]
  refine hK _ _ ?_
  clear hK K
  obtain ⟨y2, h_y2, hm0⟩ := bind_get hm0
  refine cw_reg_seq fun K hK => ?_
  simp only [go_sem]
  refine icall_fn (k_circuit_Pairs l03_Example.1 _ h_y2) ?_
  simp only [go_sem]
  refine hK _ _ ?_
  clear hK K
  obtain ⟨y4, h_y4, hm0⟩ := bind_get hm0
  refine cw_reg_seq fun K hK => ?_
  simp only [go_sem]
  refine icall_fz ?_ (k_circuit_CheckRota l03_Example.1 l03_Example.2 (Rota.mk ([[0], [1], [2], [3]]) 4) _ h_y4) (.tup _ (ow_cons (.v _) (ow_cons (.v _) (ow_cons (.v _) (ow_cons (.v _) ow_nil))))) ?_
  · exact .cons (.refl _ (.agg _ (fz_cons (frz_v _) (fz_cons (frz_fs fun a _ => fz_eI a) (fz_cons (frz_fs fun a _ => fz_eWire a) fz_nil))))) (.cons (.refl _ (frz_fs fun a _ => fz_eTrial a)) (.cons (fz_agg (.cons (fz_lit (rows := [[.rs (nxs h.nx) 0 (1)], [.rs (nxs (nxs h.nx)) 0 (1)], [.rs (nxs (nxs (nxs h.nx))) 0 (1)], [.rs (nxs (nxs (nxs (nxs h.nx)))) 0 (1)]]) (by simp only [go_sem]) rfl (.cons (.cons (fz_rs (f := eI) (l := ([0])) (by simp only [go_sem, List.length_append, List.map_append]) (by first | rfl | simp only [go_sem, List.length_append, List.map_append]) fz_eI ln_eI) (.nil)) (.cons (.cons (fz_rs (f := eI) (l := ([1])) (by simp only [go_sem, List.length_append, List.map_append]) (by first | rfl | simp only [go_sem, List.length_append, List.map_append]) fz_eI ln_eI) (.nil)) (.cons (.cons (fz_rs (f := eI) (l := ([2])) (by simp only [go_sem, List.length_append, List.map_append]) (by first | rfl | simp only [go_sem, List.length_append, List.map_append]) fz_eI ln_eI) (.nil)) (.cons (.cons (fz_rs (f := eI) (l := ([3])) (by simp only [go_sem, List.length_append, List.map_append]) (by first | rfl | simp only [go_sem, List.length_append, List.map_append]) fz_eI ln_eI) (.nil)) (.nil))))) (by intro d hd; obtain ⟨x, _, rfl⟩ := List.mem_map.1 hd; exact ln_eL_I x)) (.cons (.refl _ (frz_v _)) (.nil)))) (.nil)))
  simp only [go_sem]
  refine hK _ _ ?_
  clear hK K
  obtain ⟨c10, h_c10, hm0⟩ := bind_get hm0
  obtain ⟨c12, h_c12, hm0⟩ := bind_get hm0
  refine cw_reg_postK (fun t h => t 0 = B c12) (fun K hK => ?_) ?_
  · simp only [go_sem]
    refine ibr_intro (fun hg13 => ?_) (fun hg13 => ?_)
    · simp only [go_sem, hg13]
      refine ibr_intro (fun hg14 => ?_) (fun hg14 => ?_)
      · simp only [go_sem, hg13, hg14]
        refine ibr_intro (fun hg15 => ?_) (fun hg15 => ?_)
        · simp only [go_sem, hg13, hg14, hg15]
          refine ibr_intro (fun hg16 => ?_) (fun hg16 => ?_)
          · simp only [hg13, hg14, hg15, hg16, Bool.not_true, Bool.not_false, eq_self, if_true, if_false, Bool.true_or, Bool.or_true, Bool.false_or, Bool.or_false, Bool.true_and, Bool.and_true, Bool.false_and, Bool.and_false, Bool.false_eq_true] at h_c10
            obtain ⟨x9, h_x9, h_c10⟩ := bind_get h_c10
            have h_x90 := get_nn h_x9
            have h_x91 := get_lt h_x9
            obtain rfl := Option.some.inj h_c10
            simp only [go_sem, ielem_get h_x9, irow_get h_x9, h_x90, h_x91, hg13, hg14, hg15, hg16]
            refine ibr_intro (fun hg17 => ?_) (fun hg17 => ?_)
            · simp only [hg13, hg14, hg15, hg16, hg17, Bool.not_true, Bool.not_false, eq_self, if_true, if_false, Bool.true_or, Bool.or_true, Bool.false_or, Bool.or_false, Bool.true_and, Bool.and_true, Bool.false_and, Bool.and_false, Bool.false_eq_true] at h_c12
              obtain ⟨x11, h_x11, h_c12⟩ := bind_get h_c12
              have h_x110 := get_nn h_x11
              have h_x111 := get_lt h_x11
              obtain rfl := Option.some.inj h_c12
              simp only [go_sem, ielem_get h_x9, irow_get h_x9, h_x90, h_x91, ielem_get h_x11, irow_get h_x11, h_x110, h_x111, hg13, hg14, hg15, hg16, hg17]
              exact hK _ _ (by first | rfl | simp only [go_sem, hg13, hg14, hg15, hg16, hg17, List.length_append, List.map_append])
            · simp only [hg13, hg14, hg15, hg16, hg17, Bool.not_true, Bool.not_false, eq_self, if_true, if_false, Bool.true_or, Bool.or_true, Bool.false_or, Bool.or_false, Bool.true_and, Bool.and_true, Bool.false_and, Bool.and_false, Bool.false_eq_true] at h_c12
              obtain rfl := Option.some.inj h_c12
              simp only [go_sem, ielem_get h_x9, irow_get h_x9, h_x90, h_x91, hg13, hg14, hg15, hg16, hg17]
              exact hK _ _ (by first | rfl | simp only [go_sem, hg13, hg14, hg15, hg16, hg17, List.length_append, List.map_append])
          · simp only [hg13, hg14, hg15, hg16, Bool.not_true, Bool.not_false, eq_self, if_true, if_false, Bool.true_or, Bool.or_true, Bool.false_or, Bool.or_false, Bool.true_and, Bool.and_true, Bool.false_and, Bool.and_false, Bool.false_eq_true] at h_c10
            obtain rfl := Option.some.inj h_c10
            simp only [hg13, hg14, hg15, hg16, Bool.not_true, Bool.not_false, eq_self, if_true, if_false, Bool.true_or, Bool.or_true, Bool.false_or, Bool.or_false, Bool.true_and, Bool.and_true, Bool.false_and, Bool.and_false, Bool.false_eq_true] at h_c12
            obtain rfl := Option.some.inj h_c12
            simp only [go_sem, hg13, hg14, hg15, hg16]
            exact hK _ _ (by first | rfl | simp only [go_sem, hg13, hg14, hg15, hg16, List.length_append, List.map_append])
        · simp only [hg13, hg14, hg15, Bool.not_true, Bool.not_false, eq_self, if_true, if_false, Bool.true_or, Bool.or_true, Bool.false_or, Bool.or_false, Bool.true_and, Bool.and_true, Bool.false_and, Bool.and_false, Bool.false_eq_true] at h_c10
          obtain rfl := Option.some.inj h_c10
          simp only [hg13, hg14, hg15, Bool.not_true, Bool.not_false, eq_self, if_true, if_false, Bool.true_or, Bool.or_true, Bool.false_or, Bool.or_false, Bool.true_and, Bool.and_true, Bool.false_and, Bool.and_false, Bool.false_eq_true] at h_c12
          obtain rfl := Option.some.inj h_c12
          simp only [go_sem, hg13, hg14, hg15]
          exact hK _ _ (by first | rfl | simp only [go_sem, hg13, hg14, hg15, List.length_append, List.map_append])
      · simp only [hg13, hg14, Bool.not_true, Bool.not_false, eq_self, if_true, if_false, Bool.true_or, Bool.or_true, Bool.false_or, Bool.or_false, Bool.true_and, Bool.and_true, Bool.false_and, Bool.and_false, Bool.false_eq_true] at h_c10
        obtain rfl := Option.some.inj h_c10
        simp only [hg13, hg14, Bool.not_true, Bool.not_false, eq_self, if_true, if_false, Bool.true_or, Bool.or_true, Bool.false_or, Bool.or_false, Bool.true_and, Bool.and_true, Bool.false_and, Bool.and_false, Bool.false_eq_true] at h_c12
        obtain rfl := Option.some.inj h_c12
        simp only [go_sem, hg13, hg14]
        exact hK _ _ (by first | rfl | simp only [go_sem, hg13, hg14, List.length_append, List.map_append])
    · simp only [hg13, Bool.not_true, Bool.not_false, eq_self, if_true, if_false, Bool.true_or, Bool.or_true, Bool.false_or, Bool.or_false, Bool.true_and, Bool.and_true, Bool.false_and, Bool.and_false, Bool.false_eq_true] at h_c10
      obtain rfl := Option.some.inj h_c10
      simp only [hg13, Bool.not_true, Bool.not_false, eq_self, if_true, if_false, Bool.true_or, Bool.or_true, Bool.false_or, Bool.or_false, Bool.true_and, Bool.and_true, Bool.false_and, Bool.and_false, Bool.false_eq_true] at h_c12
      obtain rfl := Option.some.inj h_c12
      simp only [go_sem, hg13]
      exact hK _ _ (by first | rfl | simp only [go_sem, hg13, List.length_append, List.map_append])
  · rintro t h s0
    simp only [cw_ret, qseq_ret, qblock_ret, retQ_ret]
    obtain rfl := Option.some.inj hm0
    exact done_t (by simp only [go_sem, s0, List.length_append, List.map_append]) (frz_v _)

end Go.Nw.DM

namespace Go.Nw.DM
open Go.Nw.Door
set_option linter.unusedSimpArgs false
set_option linter.unusedVariables false
variable {O : Orac}

theorem k_math_bits_TrailingZeros (hf : Has O "math/bits.TrailingZeros" x_math_bits_TrailingZeros) (k_math_bits_TrailingZeros64 : C_math_bits_TrailingZeros64 O) : C_math_bits_TrailingZeros O := by
  intro x r hm0
  unfold math_bits_TrailingZeros at hm0
  refine fn_cw hf rfl (fz_cons (frz_v _) fz_nil) (frz_v _) ?_
  refine cw_start (fun t h => t 0 = .v (.int .u64 x)) rfl fun t h s0 => ?_
  simp only [x_math_bits_TrailingZeros]
  refine cw_reg_seq fun K hK => ?_
  simp only [go_sem]
  refine hK _ _ ?_
  clear hK K
  refine cw_seq_k fun K1 hK1 => ?_
  simp only [iw_cond, evT_c, evT_t, icond_b, ibr_true, ibr_false, upd_same, upd_ne, Nat.reduceEqDiff, not_false_eq_true]
  simp only [cw_skip, qblock_normal, qseq_normal]
  refine hK1 _ _ ?_
  obtain ⟨y3, h_y3, hm0⟩ := bind_get hm0
  refine cw_reg_seq fun K hK => ?_
  simp only [go_sem, s0]
  refine icall_fn (k_math_bits_TrailingZeros64 x _ h_y3) ?_
  simp only [go_sem, s0]
  refine hK _ _ ?_
  clear hK K
  simp only [cw_ret, qseq_ret, qblock_ret, retQ_ret]
  obtain rfl := Option.some.inj hm0
  exact done_t (by simp only [go_sem, List.length_append, List.map_append]) (frz_v _)

end Go.Nw.DM

namespace Go.Nw.DM
open Go.Nw.Door
set_option linter.unusedSimpArgs false
set_option linter.unusedVariables false
variable {O : Orac}

theorem k_math_bits_TrailingZeros64 (hf : Has O "math/bits.TrailingZeros64" x_math_bits_TrailingZeros64) : C_math_bits_TrailingZeros64 O := by
  intro x r hm0
  unfold math_bits_TrailingZeros64 at hm0
  refine fn_cw hf rfl (fz_cons (frz_v _) fz_nil) (frz_v _) ?_
  refine cw_start (fun t h => t 0 = .v (.int .u64 x)) rfl fun t h s0 => ?_
  simp only [x_math_bits_TrailingZeros64]
  refine cw_reg_seq fun K hK => ?_
  simp only [go_sem]
  refine hK _ _ ?_
  clear hK K
  refine cw_assoc ?_
  refine cw_reg_seq fun K hK => ?_
  simp only [go_sem, s0]
  refine hK _ _ ?_
  clear hK K
  refine cw_seq_k fun K1 hK1 => ?_
  simp only [go_sem]
  refine ibr_intro (fun hc2 => ?_) (fun hc2 => ?_)
  · rw [if_t hc2] at hm0
    refine cw_reg_seq fun K hK => ?_
    simp only [go_sem]
    refine hK _ _ ?_
    clear hK K
    simp only [cw_ret, qseq_ret, qblock_ret, retQ_ret]
    obtain rfl := Option.some.inj hm0
    exact done_t (by simp only [go_sem, List.length_append, List.map_append]) (frz_v _)
  · rw [if_f hc2] at hm0
    simp only [cw_skip, qblock_normal, qseq_normal]
    refine hK1 _ _ ?_
    obtain ⟨q5, h_q5, hm0⟩ := bind_get hm0
    obtain ⟨x6, h_x6, hm0⟩ := bind_get hm0
    refine cw_reg_seq fun K hK => ?_
    simp only [go_sem, s0, ibin_shr h_q5, iixP_g (kd := .u8) (n := 64) h_x6 gt_1_eq rfl, iget_g (kd := .u8) h_x6 gt_1_eq]
    refine hK _ _ ?_
    clear hK K
    simp only [cw_ret, qseq_ret, qblock_ret, retQ_ret]
    obtain rfl := Option.some.inj hm0
    exact done_t (by simp only [go_sem, List.length_append, List.map_append]) (frz_v _)

end Go.Nw.DM

namespace Go.Nw.DM
open Go.Nw.Door
set_option linter.unusedSimpArgs false
set_option linter.unusedVariables false
variable {O : Orac}

theorem k_r03_Blind (hf : Has O "newel/newelref03.Blind" x_r03_Blind) (k_r03_CheckTrials : C_r03_CheckTrials O) (k_r03_all : C_r03_all O) (k_r03_members : C_r03_members O) : C_r03_Blind O := by
  intro c l r hm0
  unfold r03_Blind at hm0
  refine fn_cw hf rfl (fz_cons (.agg _ (fz_cons (frz_v _) (fz_cons (frz_fs fun a _ => fz_eI a) (fz_cons (frz_fs fun a _ => fz_eWire a) fz_nil)))) (fz_cons (frz_fs fun a _ => fz_eTrial a) fz_nil)) (.tup _ (fz_cons (frz_fs fun a _ => fz_eI a) (fz_cons (frz_v _) fz_nil))) ?_
  refine cw_start (fun t h => t 0 = .agg [I c.Hazards, .fs 1 (List.map eI c.Switches), .fs 2 (List.map eWire c.Wires)] ∧ t 1 = .fs 2 (List.map eTrial l)) ⟨rfl, rfl⟩ fun t h ⟨s0, s1⟩ => ?_
  simp only [x_r03_Blind]
  refine cw_reg_seq fun K hK => ?_
  simp only [go_sem, s0]
  refine hK _ _ ?_
  clear hK K
  refine cw_assoc ?_
  obtain ⟨y2, h_y2, hm0⟩ := bind_get hm0
  refine cw_reg_seq fun K hK => ?_
  simp only [go_sem, s1]
  refine icall_fn (k_r03_CheckTrials c l _ h_y2) ?_
  simp only [go_sem, s1]
  refine hK _ _ ?_
  clear hK K
  refine cw_assoc ?_
  refine cw_reg_seq fun K hK => ?_
  simp only [go_sem]
  refine hK _ _ ?_
  clear hK K
  refine cw_seq_k fun K3 hK3 => ?_
  simp only [go_sem]
  refine ibr_intro (fun hc4 => ?_) (fun hc4 => ?_)
  · rw [if_t hc4] at hm0
    refine cw_reg_seq fun K hK => ?_
    simp only [go_sem]
    refine hK _ _ ?_
    clear hK K
    simp only [cw_ret, qseq_ret, qblock_ret, retQ_ret]
    obtain rfl := Option.some.inj hm0
    exact done_fz2 (v := .v (.slice none 0 0)) (u := I y2) (by simp only [go_sem, List.length_append, List.map_append]) (by simp only [go_sem, List.length_append, List.map_append]) (.nil _) (.refl _ (frz_v _))
  · rw [if_f hc4] at hm0
    simp only [cw_skip, qblock_normal, qseq_normal]
    refine hK3 _ _ ?_
    obtain ⟨q7, h_q7, hm0⟩ := bind_get hm0
    obtain ⟨y8, h_y8, hm0⟩ := bind_get hm0
    refine cw_reg_seq fun K hK => ?_
    simp only [go_sem, s1, ibin_shl h_q7]
    refine icall_fn (k_r03_all c l (wr (q7 - 1)) _ h_y8) ?_
    simp only [go_sem, s1, ibin_shl h_q7]
    refine hK _ _ ?_
    clear hK K
    obtain ⟨q11, h_q11, hm0⟩ := bind_get hm0
    obtain ⟨y12, h_y12, hm0⟩ := bind_get hm0
    refine cw_reg_seq fun K hK => ?_
    simp only [go_sem, ibin_shl h_q11]
    refine icall_fn (k_r03_members (wr ((wr (q11 - 1)) - y8)) (List.length c.Switches : Int) _ h_y12) ?_
    simp only [go_sem, ibin_shl h_q11]
    refine hK _ _ ?_
    clear hK K
    simp only [cw_ret, qseq_ret, qblock_ret, retQ_ret]
    obtain rfl := Option.some.inj hm0
    exact done_t2 (by simp only [go_sem, List.length_append, List.map_append]) (by simp only [go_sem, List.length_append, List.map_append]) (frz_fs fun a _ => fz_eI a) (frz_v _)

end Go.Nw.DM

namespace Go.Nw.DM
open Go.Nw.Door
set_option linter.unusedSimpArgs false
set_option linter.unusedVariables false
variable {O : Orac}

theorem k_r03_Check (hf : Has O "newel/newelref03.Check" x_r03_Check) (k_r03_within : C_r03_within O) : C_r03_Check O := by
  intro c r hm0
  unfold r03_Check at hm0
  refine fn_cw hf rfl (fz_cons (.agg _ (fz_cons (frz_v _) (fz_cons (frz_fs fun a _ => fz_eI a) (fz_cons (frz_fs fun a _ => fz_eWire a) fz_nil)))) fz_nil) (frz_v _) ?_
  refine cw_start (fun t h => t 0 = .agg [I c.Hazards, .fs 1 (List.map eI c.Switches), .fs 2 (List.map eWire c.Wires)]) rfl fun t h s0 => ?_
  simp only [x_r03_Check]
  refine cw_reg_seq fun K hK => ?_
  simp only [go_sem, s0]
  refine hK _ _ ?_
  clear hK K
  refine cw_assoc ?_
  refine cw_reg_postK (fun t h => t 1 = .fp [I c.Hazards, .fs 1 (List.map eI c.Switches), .fs 2 (List.map eWire c.Wires)] 0 ∧ t 27 = B (((!(r03_within c.Hazards 1 8)) || (!(r03_within (List.length c.Switches : Int) 1 12))) || (!(r03_within (List.length c.Wires : Int) 1 24)))) (fun K hK => ?_) ?_
  · simp only [go_sem]
    refine icall_fn (k_r03_within c.Hazards 1 8) ?_
    simp only [go_sem]
    refine ibr_intro (fun hg1 => ?_) (fun hg1 => ?_)
    · simp only [go_sem, hg1]
      exact hK _ _ ⟨(by first | rfl | simp only [go_sem, hg1, List.length_append, List.map_append]), (by first | rfl | simp only [go_sem, hg1, List.length_append, List.map_append])⟩
    · simp only [go_sem, hg1]
      refine icall_fn (k_r03_within (List.length c.Switches : Int) 1 12) ?_
      simp only [go_sem, hg1]
      refine ibr_intro (fun hg2 => ?_) (fun hg2 => ?_)
      · simp only [go_sem, hg1, hg2]
        exact hK _ _ ⟨(by first | rfl | simp only [go_sem, hg1, hg2, List.length_append, List.map_append]), (by first | rfl | simp only [go_sem, hg1, hg2, List.length_append, List.map_append])⟩
      · simp only [go_sem, hg1, hg2]
        refine icall_fn (k_r03_within (List.length c.Wires : Int) 1 24) ?_
        simp only [go_sem, hg1, hg2]
        exact hK _ _ ⟨(by first | rfl | simp only [go_sem, hg1, hg2, List.length_append, List.map_append]), (by first | rfl | simp only [go_sem, hg1, hg2, List.length_append, List.map_append])⟩
  · rintro t h ⟨s1, s27⟩
    refine cw_seq_k fun K3 hK3 => ?_
    simp only [go_sem, s27]
    refine ibr_intro (fun hc4 => ?_) (fun hc4 => ?_)
    · rw [if_t hc4] at hm0
      refine cw_reg_seq fun K hK => ?_
      simp only [go_sem]
      refine hK _ _ ?_
      clear hK K
      simp only [cw_ret, qseq_ret, qblock_ret, retQ_ret]
      obtain rfl := Option.some.inj hm0
      exact done_t (by simp only [go_sem, List.length_append, List.map_append]) (frz_v _)
    · rw [if_f hc4] at hm0
      simp only [cw_skip, qblock_normal, qseq_normal]
      refine hK3 _ _ ?_
      refine cw_assoc ?_
      refine cw_reg_seq fun K hK => ?_
      simp only [go_sem]
      refine hK _ _ ?_
      clear hK K
      refine cw_seq_k fun K5 hK5 => ?_
      have J6 : ∀ (t : Slots) (h : Heap), t 1 = .fp [I c.Hazards, .fs 1 (List.map eI c.Switches), .fs 2 (List.map eWire c.Wires)] 0 → r03_Check_j6 c = some r → K5 t h := by
        intro t h s1 hm0
        refine hK5 _ _ ?_
        unfold r03_Check_j6 at hm0
        obtain ⟨l8, h_l8, hm0⟩ := bind_get hm0
        refine cw_reg_seq fun K hK => ?_
        simp only [go_sem, s1]
        refine imksl_ok (f := eI) (z := 0) rfl h_l8 ?_
        simp only [go_sem, s1]
        refine hK _ _ ?_
        clear hK K
        refine cw_assoc ?_
        refine cw_reg_seq fun K hK => ?_
        simp only [go_sem]
        refine hK _ _ ?_
        clear hK K
        refine cw_seq_k fun K9 hK9 => ?_
        have J10 : ∀ (used_4 : List Int) (i4 : Nat) (t : Slots) (h : Heap), t 4 = .rs i4 0 (List.length used_4) → h.ob i4 = some (1, List.map eI used_4) → i4 < h.nx → r03_Check_j10 used_4 = some r → K9 t h := by
          intro used_4 i4 t h s4 ob_o4 lt_o4 hm0
          refine hK9 _ _ ?_
          unfold r03_Check_j10 at hm0
          refine cw_assoc ?_
          refine cw_reg_seq fun K hK => ?_
          simp only [go_sem, lt_o4]
          refine hK _ _ ?_
          clear hK K
          refine cw_seq_k fun K11 hK11 => ?_
          have J12 : ∀ (t : Slots) (h : Heap), r03_Check_j12 = some r → K11 t h := by
            intro t h hm0
            refine hK11 _ _ ?_
            unfold r03_Check_j12 at hm0
            refine cw_reg_seq fun K hK => ?_
            simp only [go_sem]
            refine hK _ _ ?_
            clear hK K
            simp only [cw_ret, qseq_ret, qblock_ret, retQ_ret]
            obtain rfl := Option.some.inj hm0
            exact done_t (by simp only [go_sem, List.length_append, List.map_append]) (frz_v _)
          simp only [cw_block]
          obtain ⟨b13, hl13, hm0⟩ := bind_get hm0
          refine cw_loopM hl13 (fun | i_9, t, h => t 4 = .rs i4 0 (List.length used_4) ∧ t 9 = I i_9 ∧ h.ob i4 = some (1, List.map eI used_4) ∧ i4 < h.nx) ?_ ?_
          · exact ⟨(by first | exact s4 | simp only [go_sem, s4, List.length_append, List.map_append]), (by first | rfl | simp only [go_sem, List.length_append, List.map_append]), ob_o4, lt_o4⟩
          · rintro i_9 o t h ⟨s4, s9, ob_o4, lt_o4⟩ hm1 hb13
            simp only [r03_Check_L38] at hm1
            rw [x_r03_Check_L38]
            refine cw_assoc ?_
            refine cw_reg_seq fun K hK => ?_
            simp only [go_sem, s4, s9, ob_o4, lt_o4]
            refine hK _ _ ?_
            clear hK K
            refine cw_seq_k fun K14 hK14 => ?_
            simp only [go_sem]
            refine ibr_intro (fun hc15 => ?_) (fun hc15 => ?_)
            · rw [if_t hc15] at hm1
              simp only [cw_skip, qblock_normal, qseq_normal]
              refine hK14 _ _ ?_
              refine cw_seq_k fun K16 hK16 => ?_
              simp only [cw_block]
              obtain ⟨x18, h_x18, hm1⟩ := bind_get hm1
              have h_x180 := get_nn h_x18
              have h_x181 := get_lt h_x18
              refine cw_reg_seq fun K hK => ?_
              simp only [go_sem, s4, s9, ob_o4, lt_o4, ielem_get h_x18, irow_get h_x18, h_x180, h_x181]
              refine hK _ _ ?_
              clear hK K
              simp only [go_sem]
              refine ibr_intro (fun hc19 => ?_) (fun hc19 => ?_)
              · rw [if_t hc19] at hm1
                refine cw_reg_seq fun K hK => ?_
                simp only [go_sem, lt_o4]
                refine hK _ _ ?_
                clear hK K
                simp only [cw_ret, qseq_ret, qblock_ret, retQ_ret]
                obtain rfl := Option.some.inj hm1
                obtain rfl := hb13 _ rfl
                try dsimp only at hm0
                obtain rfl := Option.some.inj hm0
                exact done_t (by simp only [go_sem, ob_o4, lt_o4, List.length_append, List.map_append]) (frz_v _)
              · rw [if_f hc19] at hm1
                simp only [cw_skip, qblock_normal, qseq_normal]
                refine hK16 _ _ ?_
                refine cw_reg_k fun K hK => ?_
                simp only [go_sem, s9, lt_o4]
                refine hK _ _ ?_
                clear hK K
                simp only [qblock_normal, qseq_normal]
                obtain rfl := Option.some.inj hm1
                refine ⟨_, rfl, ?_⟩
                exact ⟨(by first | exact s4 | simp only [go_sem, s4, List.length_append, List.map_append]), (by first | rfl | exact s9 | simp only [go_sem, s9, List.length_append, List.map_append]), ob_o4, lt_o4⟩
            · rw [if_f hc15] at hm1
              simp only [cw_exit, qseq_exit, qblock_same, qblock_ne, qblock_normal, qseq_normal, Nat.reduceEqDiff, not_false_eq_true]
              obtain rfl := Option.some.inj hm1
              obtain rfl := hb13 _ rfl
              try dsimp only at hm0
              exact J12  _ _  hm0
        simp only [cw_block]
        obtain ⟨b21, hl21, hm0⟩ := bind_get hm0
        refine cw_loopM hl21 (fun | (used_4, i_5), t, h => ∃ i4 : Nat, t 1 = .fp [I c.Hazards, .fs 1 (List.map eI c.Switches), .fs 2 (List.map eWire c.Wires)] 0 ∧ t 4 = .rs i4 0 (List.length used_4) ∧ t 5 = I i_5 ∧ h.ob i4 = some (1, List.map eI used_4) ∧ i4 < h.nx) ?_ ?_
        · exact ⟨h.nx, s1, (by first | rfl | simp only [go_sem, List.length_append, List.map_append]), (by first | rfl | simp only [go_sem, List.length_append, List.map_append]), (by simp only [go_sem, List.length_append, List.map_append]), (by simp only [go_sem])⟩
        · rintro ⟨used_4, i_5⟩ o t h ⟨i4, s1, s4, s5, ob_o4, lt_o4⟩ hm1 hb21
          simp only [r03_Check_L32] at hm1
          rw [x_r03_Check_L32]
          refine cw_assoc ?_
          refine cw_reg_seq fun K hK => ?_
          simp only [go_sem, s1, s5, lt_o4]
          refine hK _ _ ?_
          clear hK K
          refine cw_seq_k fun K22 hK22 => ?_
          simp only [go_sem]
          refine ibr_intro (fun hc23 => ?_) (fun hc23 => ?_)
          · rw [if_t hc23] at hm1
            simp only [cw_skip, qblock_normal, qseq_normal]
            refine hK22 _ _ ?_
            refine cw_seq_k fun K24 hK24 => ?_
            have J25 : ∀ (used_4_1 : List Int) (t : Slots) (h : Heap), t 1 = .fp [I c.Hazards, .fs 1 (List.map eI c.Switches), .fs 2 (List.map eWire c.Wires)] 0 → t 4 = .rs i4 0 (List.length used_4_1) → t 5 = I i_5 → h.ob i4 = some (1, List.map eI used_4_1) → i4 < h.nx → r03_Check_j25 i_5 used_4_1 = some o → K24 t h := by
              intro used_4_1 t h s1 s4 s5 ob_o4 lt_o4 hm1
              refine hK24 _ _ ?_
              unfold r03_Check_j25 at hm1
              refine cw_reg_k fun K hK => ?_
              simp only [go_sem, s5, lt_o4]
              refine hK _ _ ?_
              clear hK K
              simp only [qblock_normal, qseq_normal]
              obtain rfl := Option.some.inj hm1
              refine ⟨_, rfl, ?_⟩
              exact ⟨i4, s1, (by first | exact s4 | simp only [go_sem, s4, List.length_append, List.map_append]), (by first | rfl | exact s5 | simp only [go_sem, s5, List.length_append, List.map_append]), ob_o4, lt_o4⟩
            simp only [cw_block]
            obtain ⟨x27, h_x27, hm1⟩ := bind_get hm1
            have h_x270 := get_nn h_x27
            have h_x271 := get_lt h_x27
            refine cw_reg_seq fun K hK => ?_
            simp only [go_sem, s1, s5, lt_o4, ielem_get h_x27, irow_get h_x27, h_x270, h_x271]
            refine hK _ _ ?_
            clear hK K
            refine cw_reg_seq fun K hK => ?_
            simp only [go_sem, lt_o4]
            refine hK _ _ ?_
            clear hK K
            simp only [cw_block]
            refine cw_reg_seq fun K hK => ?_
            simp only [go_sem, lt_o4]
            refine hK _ _ ?_
            clear hK K
            simp only [go_sem]
            refine ibr_intro (fun hc28 => ?_) (fun hc28 => ?_)
            · rw [if_t hc28] at hm1
              obtain ⟨c32, h_c32, hm1⟩ := bind_get hm1
              refine cw_reg_postK (fun t h => t 1 = .fp [I c.Hazards, .fs 1 (List.map eI c.Switches), .fs 2 (List.map eWire c.Wires)] 0 ∧ t 4 = .rs i4 0 (List.length used_4) ∧ t 5 = I i_5 ∧ t 82 = B c32 ∧ h.ob i4 = some (1, List.map eI used_4) ∧ i4 < h.nx) (fun K hK => ?_) ?_
              · simp only [go_sem, s1, lt_o4]
                refine ibr_intro (fun hg33 => ?_) (fun hg33 => ?_)
                · simp only [hg33, Bool.not_true, Bool.not_false, eq_self, if_true, if_false, Bool.true_or, Bool.or_true, Bool.false_or, Bool.or_false, Bool.true_and, Bool.and_true, Bool.false_and, Bool.and_false, Bool.false_eq_true] at h_c32
                  obtain rfl := Option.some.inj h_c32
                  simp only [go_sem, s1, lt_o4, hg33]
                  exact hK _ _ ⟨s1, (by first | exact s4 | simp only [go_sem, s4, List.length_append, List.map_append]), s5, (by first | rfl | simp only [go_sem, hg33, List.length_append, List.map_append]), (by simp only [go_sem, ob_o4, lt_o4, hg33, List.length_append, List.map_append]), (by simp only [go_sem, lt_o4])⟩
                · simp only [hg33, Bool.not_true, Bool.not_false, eq_self, if_true, if_false, Bool.true_or, Bool.or_true, Bool.false_or, Bool.or_false, Bool.true_and, Bool.and_true, Bool.false_and, Bool.and_false, Bool.false_eq_true] at h_c32
                  obtain ⟨x31, h_x31, h_c32⟩ := bind_get h_c32
                  have h_x310 := get_nn h_x31
                  have h_x311 := get_lt h_x31
                  obtain rfl := Option.some.inj h_c32
                  simp only [go_sem, s1, lt_o4, ielem_get h_x31, irow_get h_x31, h_x310, h_x311, hg33]
                  refine icall_fn (k_r03_within x31 0 (wr ((List.length c.Switches : Int) - 1))) ?_
                  simp only [go_sem, s1, lt_o4, ielem_get h_x31, irow_get h_x31, h_x310, h_x311, hg33]
                  exact hK _ _ ⟨s1, (by first | exact s4 | simp only [go_sem, s4, List.length_append, List.map_append]), s5, (by first | rfl | simp only [go_sem, hg33, List.length_append, List.map_append]), (by simp only [go_sem, ob_o4, lt_o4, hg33, List.length_append, List.map_append]), (by simp only [go_sem, lt_o4])⟩
              · rintro t h ⟨s1, s4, s5, s82, ob_o4, lt_o4⟩
                simp only [go_sem, s82]
                refine ibr_intro (fun hc34 => ?_) (fun hc34 => ?_)
                · rw [if_t hc34] at hm1
                  refine cw_reg_seq fun K hK => ?_
                  simp only [go_sem, lt_o4]
                  refine hK _ _ ?_
                  clear hK K
                  simp only [cw_ret, qseq_ret, qblock_ret, retQ_ret]
                  obtain rfl := Option.some.inj hm1
                  obtain rfl := hb21 _ rfl
                  try dsimp only at hm0
                  obtain rfl := Option.some.inj hm0
                  exact done_t (by simp only [go_sem, ob_o4, lt_o4, List.length_append, List.map_append]) (frz_v _)
                · rw [if_f hc34] at hm1
                  simp only [cw_skip, qblock_normal, qseq_normal]
                  exact J25 used_4 _ _ s1 (by first | exact s4 | simp only [go_sem, s4, List.length_append, List.map_append]) s5 ob_o4 lt_o4 hm1
            · rw [if_f hc28] at hm1
              refine cw_assoc ?_
              refine cw_reg_seq fun K hK => ?_
              simp only [go_sem, lt_o4]
              refine hK _ _ ?_
              clear hK K
              refine cw_seq_k fun K35 hK35 => ?_
              have J36 : ∀ (x_83 : Bool) (i6 : Nat) (t : Slots) (h : Heap), t 1 = .fp [I c.Hazards, .fs 1 (List.map eI c.Switches), .fs 2 (List.map eWire c.Wires)] 0 → t 4 = .rs i4 0 (List.length used_4) → t 5 = I i_5 → t 6 = .rp i6 0 0 → t 83 = B x_83 → h.ob i4 = some (1, List.map eI used_4) → i4 < h.nx → h.ob i6 = some (2, [[I x27.Kind, .fs 1 (List.map eI x27.Of)]]) → i6 < h.nx → ¬i4 = i6 → r03_Check_j36 c used_4 i_5 x27 x_83 = some o → K35 t h := by
                intro x_83 i6 t h s1 s4 s5 s6 s83 ob_o4 lt_o4 ob_o6 lt_o6 ne_o4_o6 hm1
                refine hK35 _ _ ?_
                unfold r03_Check_j36 at hm1
                simp only [go_sem, s83]
                refine ibr_intro (fun hc37 => ?_) (fun hc37 => ?_)
                · rw [if_t hc37] at hm1
                  refine cw_assoc ?_
                  refine cw_reg_seq fun K hK => ?_
                  simp only [go_sem, s6, ob_o6, lt_o6, lt_o4, ne_o4_o6, nsym ne_o4_o6]
                  refine icall_fn (k_r03_within (List.length x27.Of : Int) 1 8) ?_
                  simp only [go_sem, s6, ob_o6, lt_o6, lt_o4, ne_o4_o6, nsym ne_o4_o6]
                  refine hK _ _ ?_
                  clear hK K
                  refine cw_seq_k fun K38 hK38 => ?_
                  simp only [go_sem]
                  refine ibr_intro (fun hc39 => ?_) (fun hc39 => ?_)
                  · rw [if_t hc39] at hm1
                    refine cw_reg_seq fun K hK => ?_
                    simp only [go_sem, lt_o4, lt_o6]
                    refine hK _ _ ?_
                    clear hK K
                    simp only [cw_ret, qseq_ret, qblock_ret, retQ_ret]
                    obtain rfl := Option.some.inj hm1
                    obtain rfl := hb21 _ rfl
                    try dsimp only at hm0
                    obtain rfl := Option.some.inj hm0
                    exact done_t (by simp only [go_sem, ob_o4, lt_o4, ob_o6, lt_o6, ne_o4_o6, nsym ne_o4_o6, List.length_append, List.map_append]) (frz_v _)
                  · rw [if_f hc39] at hm1
                    simp only [cw_skip, qblock_normal, qseq_normal]
                    refine hK38 _ _ ?_
                    refine cw_reg_seq fun K hK => ?_
                    simp only [go_sem, s5, lt_o4, lt_o6]
                    refine hK _ _ ?_
                    clear hK K
                    refine cw_reg_seq fun K hK => ?_
                    simp only [go_sem, lt_o4, lt_o6]
                    refine hK _ _ ?_
                    clear hK K
                    simp only [cw_block]
                    obtain ⟨b40, hl40, hm1⟩ := bind_get hm1
                    refine cw_loopM hl40 (fun | (used_4_1, last_7, k_8), t, h => t 1 = .fp [I c.Hazards, .fs 1 (List.map eI c.Switches), .fs 2 (List.map eWire c.Wires)] 0 ∧ t 4 = .rs i4 0 (List.length used_4_1) ∧ t 5 = I i_5 ∧ t 6 = .rp i6 0 0 ∧ t 7 = I last_7 ∧ t 8 = I k_8 ∧ h.ob i4 = some (1, List.map eI used_4_1) ∧ i4 < h.nx ∧ h.ob i6 = some (2, [[I x27.Kind, .fs 1 (List.map eI x27.Of)]]) ∧ i6 < h.nx ∧ ¬i4 = i6) ?_ ?_
                    · exact ⟨s1, (by first | exact s4 | simp only [go_sem, s4, List.length_append, List.map_append]), s5, s6, (by first | rfl | simp only [go_sem, List.length_append, List.map_append]), (by first | rfl | simp only [go_sem, List.length_append, List.map_append]), ob_o4, lt_o4, ob_o6, lt_o6, (by omega)⟩
                    · rintro ⟨used_4_1, last_7, k_8⟩ o t h ⟨s1, s4, s5, s6, s7, s8, ob_o4, lt_o4, ob_o6, lt_o6, ne_o4_o6⟩ hm2 hb40
                      simp only [r03_Check_L29] at hm2
                      rw [x_r03_Check_L29]
                      refine cw_assoc ?_
                      refine cw_reg_seq fun K hK => ?_
                      simp only [go_sem, s6, s8, ob_o6, lt_o6, lt_o4, ne_o4_o6, nsym ne_o4_o6]
                      refine hK _ _ ?_
                      clear hK K
                      refine cw_seq_k fun K41 hK41 => ?_
                      simp only [go_sem]
                      refine ibr_intro (fun hc42 => ?_) (fun hc42 => ?_)
                      · rw [if_t hc42] at hm2
                        simp only [cw_skip, qblock_normal, qseq_normal]
                        refine hK41 _ _ ?_
                        refine cw_seq_k fun K43 hK43 => ?_
                        simp only [cw_block]
                        refine cw_assoc ?_
                        obtain ⟨x45, h_x45, hm2⟩ := bind_get hm2
                        have h_x450 := get_nn h_x45
                        have h_x451 := get_lt h_x45
                        refine cw_reg_seq fun K hK => ?_
                        simp only [go_sem, s1, s6, s7, s8, ob_o6, lt_o6, lt_o4, ne_o4_o6, nsym ne_o4_o6, ielem_get h_x45, irow_get h_x45, h_x450, h_x451]
                        refine icall_fn (k_r03_within x45 (wr (last_7 + 1)) (wr ((List.length c.Wires : Int) - 1))) ?_
                        simp only [go_sem, s1, s6, s7, s8, ob_o6, lt_o6, lt_o4, ne_o4_o6, nsym ne_o4_o6, ielem_get h_x45, irow_get h_x45, h_x450, h_x451]
                        refine hK _ _ ?_
                        clear hK K
                        refine cw_seq_k fun K46 hK46 => ?_
                        simp only [go_sem]
                        refine ibr_intro (fun hc47 => ?_) (fun hc47 => ?_)
                        · rw [if_t hc47] at hm2
                          refine cw_reg_seq fun K hK => ?_
                          simp only [go_sem, lt_o4, lt_o6]
                          refine hK _ _ ?_
                          clear hK K
                          simp only [cw_ret, qseq_ret, qblock_ret, retQ_ret]
                          obtain rfl := Option.some.inj hm2
                          obtain rfl := hb40 _ rfl
                          try dsimp only at hm1
                          obtain rfl := Option.some.inj hm1
                          obtain rfl := hb21 _ rfl
                          try dsimp only at hm0
                          obtain rfl := Option.some.inj hm0
                          exact done_t (by simp only [go_sem, ob_o4, lt_o4, ob_o6, lt_o6, ne_o4_o6, nsym ne_o4_o6, List.length_append, List.map_append]) (frz_v _)
                        · rw [if_f hc47] at hm2
                          simp only [cw_skip, qblock_normal, qseq_normal]
                          refine hK46 _ _ ?_
                          refine cw_reg_seq fun K hK => ?_
                          simp only [go_sem, s6, s8, ob_o6, lt_o6, lt_o4, ne_o4_o6, nsym ne_o4_o6, ielem_get h_x45, irow_get h_x45, h_x450, h_x451]
                          refine hK _ _ ?_
                          clear hK K
                          obtain ⟨x49, h_x49, hm2⟩ := bind_get hm2
                          have h_x490 := get_nn h_x49
                          have h_x491 := get_lt h_x49
                          refine cw_reg_k fun K hK => ?_
                          simp only [go_sem, s4, s7, ob_o4, lt_o4, lt_o6, ne_o4_o6, nsym ne_o4_o6, ielem_get h_x49, irow_get h_x49, h_x490, h_x491]
                          refine hK _ _ ?_
                          clear hK K
                          simp only [qblock_normal, qseq_normal]
                          refine hK43 _ _ ?_
                          refine cw_reg_k fun K hK => ?_
                          simp only [go_sem, s8, lt_o4, lt_o6]
                          refine hK _ _ ?_
                          clear hK K
                          simp only [qblock_normal, qseq_normal]
                          obtain rfl := Option.some.inj hm2
                          refine ⟨_, rfl, ?_⟩
                          exact ⟨s1, (by first | exact s4 | simp only [go_sem, s4, List.length_append, List.map_append]), s5, s6, (by first | rfl | exact s7 | simp only [go_sem, s7, List.length_append, List.map_append]), (by first | rfl | exact s8 | simp only [go_sem, s8, List.length_append, List.map_append]), (by simp only [go_sem, ob_o4, lt_o4, ob_o6, lt_o6, ne_o4_o6, nsym ne_o4_o6, List.length_append, List.map_append]), (by simp only [go_sem, lt_o4, lt_o6]), (by simp only [go_sem, ob_o4, lt_o4, ob_o6, lt_o6, ne_o4_o6, nsym ne_o4_o6, List.length_append, List.map_append]), (by simp only [go_sem, lt_o4, lt_o6]), (by omega)⟩
                      · rw [if_f hc42] at hm2
                        simp only [cw_exit, qseq_exit, qblock_same, qblock_ne, qblock_normal, qseq_normal, Nat.reduceEqDiff, not_false_eq_true]
                        obtain rfl := Option.some.inj hm2
                        obtain rfl := hb40 _ rfl
                        try dsimp only at hm1
                        exact J25 used_4_1 _ _ s1 (by first | exact s4 | simp only [go_sem, s4, List.length_append, List.map_append]) s5 ob_o4 lt_o4 hm1
                · rw [if_f hc37] at hm1
                  refine cw_reg_seq fun K hK => ?_
                  simp only [go_sem, lt_o4, lt_o6]
                  refine hK _ _ ?_
                  clear hK K
                  simp only [cw_ret, qseq_ret, qblock_ret, retQ_ret]
                  obtain rfl := Option.some.inj hm1
                  obtain rfl := hb21 _ rfl
                  try dsimp only at hm0
                  obtain rfl := Option.some.inj hm0
                  exact done_t (by simp only [go_sem, ob_o4, lt_o4, ob_o6, lt_o6, ne_o4_o6, nsym ne_o4_o6, List.length_append, List.map_append]) (frz_v _)
              simp only [go_sem]
              refine ibr_intro (fun hc51 => ?_) (fun hc51 => ?_)
              · rw [if_t hc51] at hm1
                simp only [cw_skip, qblock_normal, qseq_normal]
                exact J36 (decide (x27.Kind = 2)) h.nx _ _ s1 (by first | exact s4 | simp only [go_sem, s4, List.length_append, List.map_append]) s5 (by first | rfl | simp only [go_sem, List.length_append, List.map_append]) (by first | rfl | simp only [go_sem, List.length_append, List.map_append]) (by simp only [go_sem, ob_o4, lt_o4, List.length_append, List.map_append]) (by simp only [go_sem, lt_o4]) (by simp only [go_sem, ob_o4, lt_o4, List.length_append, List.map_append]) (by simp only [go_sem, lt_o4]) (by omega) hm1
              · rw [if_f hc51] at hm1
                refine cw_reg_k fun K hK => ?_
                simp only [go_sem, lt_o4]
                refine hK _ _ ?_
                clear hK K
                simp only [qblock_normal, qseq_normal]
                exact J36 (decide (x27.Kind = 3)) h.nx _ _ s1 (by first | exact s4 | simp only [go_sem, s4, List.length_append, List.map_append]) s5 (by first | rfl | simp only [go_sem, List.length_append, List.map_append]) (by first | rfl | simp only [go_sem, List.length_append, List.map_append]) (by simp only [go_sem, ob_o4, lt_o4, List.length_append, List.map_append]) (by simp only [go_sem, lt_o4]) (by simp only [go_sem, ob_o4, lt_o4, List.length_append, List.map_append]) (by simp only [go_sem, lt_o4]) (by omega) hm1
          · rw [if_f hc23] at hm1
            simp only [cw_exit, qseq_exit, qblock_same, qblock_ne, qblock_normal, qseq_normal, Nat.reduceEqDiff, not_false_eq_true]
            obtain rfl := Option.some.inj hm1
            obtain rfl := hb21 _ rfl
            try dsimp only at hm0
            exact J10 used_4 i4 _ _ (by first | exact s4 | simp only [go_sem, s4, List.length_append, List.map_append]) ob_o4 lt_o4 hm0
      simp only [cw_block]
      obtain ⟨b53, hl53, hm0⟩ := bind_get hm0
      refine cw_loopM hl53 (fun | i_3, t, h => t 1 = .fp [I c.Hazards, .fs 1 (List.map eI c.Switches), .fs 2 (List.map eWire c.Wires)] 0 ∧ t 3 = I i_3) ?_ ?_
      · exact ⟨s1, (by first | rfl | simp only [go_sem, List.length_append, List.map_append])⟩
      · rintro i_3 o t h ⟨s1, s3⟩ hm1 hb53
        simp only [r03_Check_L8] at hm1
        rw [x_r03_Check_L8]
        refine cw_assoc ?_
        refine cw_reg_seq fun K hK => ?_
        simp only [go_sem, s1, s3]
        refine hK _ _ ?_
        clear hK K
        refine cw_seq_k fun K54 hK54 => ?_
        simp only [go_sem]
        refine ibr_intro (fun hc55 => ?_) (fun hc55 => ?_)
        · rw [if_t hc55] at hm1
          simp only [cw_skip, qblock_normal, qseq_normal]
          refine hK54 _ _ ?_
          refine cw_seq_k fun K56 hK56 => ?_
          simp only [cw_block]
          obtain ⟨x59, h_x59, hm1⟩ := bind_get hm1
          have h_x590 := get_nn h_x59
          have h_x591 := get_lt h_x59
          obtain ⟨q60, h_q60, hm1⟩ := bind_get hm1
          refine cw_reg_seq fun K hK => ?_
          simp only [go_sem, s1, s3, ielem_get h_x59, irow_get h_x59, h_x590, h_x591, ibin_shl h_q60]
          refine icall_fn (k_r03_within x59 0 (wr (q60 - 1))) ?_
          simp only [go_sem, s1, s3, ielem_get h_x59, irow_get h_x59, h_x590, h_x591, ibin_shl h_q60]
          refine hK _ _ ?_
          clear hK K
          simp only [go_sem]
          refine ibr_intro (fun hc61 => ?_) (fun hc61 => ?_)
          · rw [if_t hc61] at hm1
            refine cw_reg_seq fun K hK => ?_
            simp only [go_sem]
            refine hK _ _ ?_
            clear hK K
            simp only [cw_ret, qseq_ret, qblock_ret, retQ_ret]
            obtain rfl := Option.some.inj hm1
            obtain rfl := hb53 _ rfl
            try dsimp only at hm0
            obtain rfl := Option.some.inj hm0
            exact done_t (by simp only [go_sem, List.length_append, List.map_append]) (frz_v _)
          · rw [if_f hc61] at hm1
            simp only [cw_skip, qblock_normal, qseq_normal]
            refine hK56 _ _ ?_
            refine cw_reg_k fun K hK => ?_
            simp only [go_sem, s3]
            refine hK _ _ ?_
            clear hK K
            simp only [qblock_normal, qseq_normal]
            obtain rfl := Option.some.inj hm1
            refine ⟨_, rfl, ?_⟩
            exact ⟨s1, (by first | rfl | exact s3 | simp only [go_sem, s3, List.length_append, List.map_append])⟩
        · rw [if_f hc55] at hm1
          simp only [cw_exit, qseq_exit, qblock_same, qblock_ne, qblock_normal, qseq_normal, Nat.reduceEqDiff, not_false_eq_true]
          obtain rfl := Option.some.inj hm1
          obtain rfl := hb53 _ rfl
          try dsimp only at hm0
          exact J6  _ _ s1 hm0

end Go.Nw.DM

namespace Go.Nw.DM
open Go.Nw.Door
set_option linter.unusedSimpArgs false
set_option linter.unusedVariables false
variable {O : Orac}

theorem k_r03_CheckTrials (hf : Has O "newel/newelref03.CheckTrials" x_r03_CheckTrials) (k_r03_Check : C_r03_Check O) (k_r03_Hazards : C_r03_Hazards O) (k_r03_within : C_r03_within O) : C_r03_CheckTrials O := by
  intro c l r hm0
  unfold r03_CheckTrials at hm0
  refine fn_cw hf rfl (fz_cons (.agg _ (fz_cons (frz_v _) (fz_cons (frz_fs fun a _ => fz_eI a) (fz_cons (frz_fs fun a _ => fz_eWire a) fz_nil)))) (fz_cons (frz_fs fun a _ => fz_eTrial a) fz_nil)) (frz_v _) ?_
  refine cw_start (fun t h => t 0 = .agg [I c.Hazards, .fs 1 (List.map eI c.Switches), .fs 2 (List.map eWire c.Wires)] ∧ t 1 = .fs 2 (List.map eTrial l)) ⟨rfl, rfl⟩ fun t h ⟨s0, s1⟩ => ?_
  simp only [x_r03_CheckTrials]
  refine cw_reg_seq fun K hK => ?_
  simp only [go_sem, s0]
  refine hK _ _ ?_
  clear hK K
  refine cw_assoc ?_
  obtain ⟨y2, h_y2, hm0⟩ := bind_get hm0
  refine cw_reg_seq fun K hK => ?_
  simp only [go_sem]
  refine icall_fn (k_r03_Check c _ h_y2) ?_
  simp only [go_sem]
  refine hK _ _ ?_
  clear hK K
  refine cw_seq_k fun K3 hK3 => ?_
  simp only [go_sem]
  refine ibr_intro (fun hc4 => ?_) (fun hc4 => ?_)
  · rw [if_t hc4] at hm0
    refine cw_reg_seq fun K hK => ?_
    simp only [go_sem]
    refine hK _ _ ?_
    clear hK K
    simp only [cw_ret, qseq_ret, qblock_ret, retQ_ret]
    obtain rfl := Option.some.inj hm0
    exact done_t (by simp only [go_sem, List.length_append, List.map_append]) (frz_v _)
  · rw [if_f hc4] at hm0
    simp only [cw_skip, qblock_normal, qseq_normal]
    refine hK3 _ _ ?_
    refine cw_assoc ?_
    refine cw_reg_seq fun K hK => ?_
    simp only [go_sem, s1]
    refine hK _ _ ?_
    clear hK K
    refine cw_seq_k fun K5 hK5 => ?_
    simp only [go_sem]
    refine ibr_intro (fun hc6 => ?_) (fun hc6 => ?_)
    · rw [if_t hc6] at hm0
      refine cw_reg_seq fun K hK => ?_
      simp only [go_sem]
      refine hK _ _ ?_
      clear hK K
      simp only [cw_ret, qseq_ret, qblock_ret, retQ_ret]
      obtain rfl := Option.some.inj hm0
      exact done_t (by simp only [go_sem, List.length_append, List.map_append]) (frz_v _)
    · rw [if_f hc6] at hm0
      simp only [cw_skip, qblock_normal, qseq_normal]
      refine hK5 _ _ ?_
      refine cw_assoc ?_
      refine cw_reg_seq fun K hK => ?_
      simp only [go_sem]
      refine hK _ _ ?_
      clear hK K
      refine cw_seq_k fun K7 hK7 => ?_
      have J8 : ∀ (t : Slots) (h : Heap), r03_CheckTrials_j8 = some r → K7 t h := by
        intro t h hm0
        refine hK7 _ _ ?_
        unfold r03_CheckTrials_j8 at hm0
        refine cw_reg_seq fun K hK => ?_
        simp only [go_sem]
        refine hK _ _ ?_
        clear hK K
        simp only [cw_ret, qseq_ret, qblock_ret, retQ_ret]
        obtain rfl := Option.some.inj hm0
        exact done_t (by simp only [go_sem, List.length_append, List.map_append]) (frz_v _)
      simp only [cw_block]
      obtain ⟨b9, hl9, hm0⟩ := bind_get hm0
      refine cw_loopM hl9 (fun | i_5, t, h => t 1 = .fs 2 (List.map eTrial l) ∧ t 2 = .fp [I c.Hazards, .fs 1 (List.map eI c.Switches), .fs 2 (List.map eWire c.Wires)] 0 ∧ t 5 = I i_5) ?_ ?_
      · exact ⟨s1, (by first | rfl | simp only [go_sem, List.length_append, List.map_append]), (by first | rfl | simp only [go_sem, List.length_append, List.map_append])⟩
      · rintro i_5 o t h ⟨s1, s2, s5⟩ hm1 hb9
        simp only [r03_CheckTrials_L10] at hm1
        rw [x_r03_CheckTrials_L10]
        refine cw_assoc ?_
        refine cw_reg_seq fun K hK => ?_
        simp only [go_sem, s1, s5]
        refine hK _ _ ?_
        clear hK K
        refine cw_seq_k fun K10 hK10 => ?_
        simp only [go_sem]
        refine ibr_intro (fun hc11 => ?_) (fun hc11 => ?_)
        · rw [if_t hc11] at hm1
          simp only [cw_skip, qblock_normal, qseq_normal]
          refine hK10 _ _ ?_
          refine cw_seq_k fun K12 hK12 => ?_
          simp only [cw_block]
          obtain ⟨x15, h_x15, hm1⟩ := bind_get hm1
          have h_x150 := get_nn h_x15
          have h_x151 := get_lt h_x15
          obtain ⟨y16, h_y16, hm1⟩ := bind_get hm1
          refine cw_reg_postK (fun t h => t 1 = .fs 2 (List.map eTrial l) ∧ t 2 = .fp [I c.Hazards, .fs 1 (List.map eI c.Switches), .fs 2 (List.map eWire c.Wires)] 0 ∧ t 5 = I i_5 ∧ t 38 = B ((!y16) || (!(r03_within x15.Wire 0 (wr ((List.length c.Wires : Int) - 1)))))) (fun K hK => ?_) ?_
          · simp only [go_sem, s1, s2, s5, ielem_get h_x15, irow_get h_x15, h_x150, h_x151]
            refine icall_fn (k_r03_Hazards c x15.Hazards _ h_y16) ?_
            simp only [go_sem, s1, s2, s5, ielem_get h_x15, irow_get h_x15, h_x150, h_x151]
            refine ibr_intro (fun hg17 => ?_) (fun hg17 => ?_)
            · simp only [go_sem, s1, s2, s5, ielem_get h_x15, irow_get h_x15, h_x150, h_x151, hg17]
              exact hK _ _ ⟨s1, s2, s5, (by first | rfl | simp only [go_sem, hg17, List.length_append, List.map_append])⟩
            · simp only [go_sem, s1, s2, s5, ielem_get h_x15, irow_get h_x15, h_x150, h_x151, hg17]
              refine icall_fn (k_r03_within x15.Wire 0 (wr ((List.length c.Wires : Int) - 1))) ?_
              simp only [go_sem, s1, s2, s5, ielem_get h_x15, irow_get h_x15, h_x150, h_x151, hg17]
              exact hK _ _ ⟨s1, s2, s5, (by first | rfl | simp only [go_sem, hg17, List.length_append, List.map_append])⟩
          · rintro t h ⟨s1, s2, s5, s38⟩
            simp only [go_sem, s38]
            refine ibr_intro (fun hc18 => ?_) (fun hc18 => ?_)
            · rw [if_t hc18] at hm1
              refine cw_reg_seq fun K hK => ?_
              simp only [go_sem]
              refine hK _ _ ?_
              clear hK K
              simp only [cw_ret, qseq_ret, qblock_ret, retQ_ret]
              obtain rfl := Option.some.inj hm1
              obtain rfl := hb9 _ rfl
              try dsimp only at hm0
              obtain rfl := Option.some.inj hm0
              exact done_t (by simp only [go_sem, List.length_append, List.map_append]) (frz_v _)
            · rw [if_f hc18] at hm1
              simp only [cw_skip, qblock_normal, qseq_normal]
              refine hK12 _ _ ?_
              refine cw_reg_k fun K hK => ?_
              simp only [go_sem, s5]
              refine hK _ _ ?_
              clear hK K
              simp only [qblock_normal, qseq_normal]
              obtain rfl := Option.some.inj hm1
              refine ⟨_, rfl, ?_⟩
              exact ⟨s1, s2, (by first | rfl | exact s5 | simp only [go_sem, s5, List.length_append, List.map_append])⟩
        · rw [if_f hc11] at hm1
          simp only [cw_exit, qseq_exit, qblock_same, qblock_ne, qblock_normal, qseq_normal, Nat.reduceEqDiff, not_false_eq_true]
          obtain rfl := Option.some.inj hm1
          obtain rfl := hb9 _ rfl
          try dsimp only at hm0
          exact J8  _ _  hm0

end Go.Nw.DM

namespace Go.Nw.DM
open Go.Nw.Door
set_option linter.unusedSimpArgs false
set_option linter.unusedVariables false
variable {O : Orac}

theorem k_r03_Hazards (hf : Has O "newel/newelref03.Hazards" x_r03_Hazards) (k_r03_within : C_r03_within O) : C_r03_Hazards O := by
  intro c n r hm0
  unfold r03_Hazards at hm0
  refine fn_cw hf rfl (fz_cons (.agg _ (fz_cons (frz_v _) (fz_cons (frz_fs fun a _ => fz_eI a) (fz_cons (frz_fs fun a _ => fz_eWire a) fz_nil)))) (fz_cons (frz_v _) fz_nil)) (frz_v _) ?_
  refine cw_start (fun t h => t 0 = .agg [I c.Hazards, .fs 1 (List.map eI c.Switches), .fs 2 (List.map eWire c.Wires)] ∧ t 1 = I n) ⟨rfl, rfl⟩ fun t h ⟨s0, s1⟩ => ?_
  simp only [x_r03_Hazards]
  refine cw_reg_seq fun K hK => ?_
  simp only [go_sem, s0]
  refine hK _ _ ?_
  clear hK K
  obtain ⟨q2, h_q2, hm0⟩ := bind_get hm0
  refine cw_reg_seq fun K hK => ?_
  simp only [go_sem, s1, ibin_shl h_q2]
  refine icall_fn (k_r03_within n 0 (wr (q2 - 1))) ?_
  simp only [go_sem, s1, ibin_shl h_q2]
  refine hK _ _ ?_
  clear hK K
  simp only [cw_ret, qseq_ret, qblock_ret, retQ_ret]
  obtain rfl := Option.some.inj hm0
  exact done_t (by simp only [go_sem, List.length_append, List.map_append]) (frz_v _)

end Go.Nw.DM

namespace Go.Nw.DM
open Go.Nw.Door
set_option linter.unusedSimpArgs false
set_option linter.unusedVariables false
variable {O : Orac}

theorem k_r03_Ones (hf : Has O "newel/newelref03.Ones" x_r03_Ones) : C_r03_Ones O := by
  intro set r hm0
  unfold r03_Ones at hm0
  refine fn_cw hf rfl (fz_cons (frz_v _) fz_nil) (frz_v _) ?_
  refine cw_start (fun t h => t 0 = I set) rfl fun t h s0 => ?_
  simp only [x_r03_Ones]
  refine cw_reg_seq fun K hK => ?_
  simp only [go_sem]
  refine hK _ _ ?_
  clear hK K
  refine cw_reg_seq fun K hK => ?_
  simp only [go_sem]
  refine hK _ _ ?_
  clear hK K
  refine cw_seq_k fun K1 hK1 => ?_
  have J2 : ∀ (n_3 : Int) (t : Slots) (h : Heap), t 3 = I n_3 → r03_Ones_j2 n_3 = some r → K1 t h := by
    intro n_3 t h s3 hm0
    refine hK1 _ _ ?_
    unfold r03_Ones_j2 at hm0
    refine cw_reg_seq fun K hK => ?_
    simp only [go_sem, s3]
    refine hK _ _ ?_
    clear hK K
    simp only [cw_ret, qseq_ret, qblock_ret, retQ_ret]
    obtain rfl := Option.some.inj hm0
    exact done_t (by simp only [go_sem, List.length_append, List.map_append]) (frz_v _)
  simp only [cw_block]
  obtain ⟨b3, hl3, hm0⟩ := bind_get hm0
  refine cw_loopM hl3 (fun | (set_0, n_3), t, h => t 0 = I set_0 ∧ t 3 = I n_3) ?_ ?_
  · exact ⟨s0, (by first | rfl | simp only [go_sem, List.length_append, List.map_append])⟩
  · rintro ⟨set_0, n_3⟩ o t h ⟨s0, s3⟩ hm1 hb3
    simp only [r03_Ones_L5] at hm1
    rw [x_r03_Ones_L5]
    refine cw_assoc ?_
    refine cw_reg_seq fun K hK => ?_
    simp only [go_sem, s0]
    refine hK _ _ ?_
    clear hK K
    refine cw_seq_k fun K4 hK4 => ?_
    simp only [go_sem]
    refine ibr_intro (fun hc5 => ?_) (fun hc5 => ?_)
    · rw [if_t hc5] at hm1
      simp only [cw_skip, qblock_normal, qseq_normal]
      refine hK4 _ _ ?_
      refine cw_seq_k fun K6 hK6 => ?_
      simp only [cw_block]
      refine cw_reg_k fun K hK => ?_
      simp only [go_sem, s0, s3]
      refine hK _ _ ?_
      clear hK K
      simp only [qblock_normal, qseq_normal]
      refine hK6 _ _ ?_
      obtain ⟨q8, h_q8, hm1⟩ := bind_get hm1
      refine cw_reg_k fun K hK => ?_
      simp only [go_sem, s0, ibin_shr h_q8]
      refine hK _ _ ?_
      clear hK K
      simp only [qblock_normal, qseq_normal]
      obtain rfl := Option.some.inj hm1
      refine ⟨_, rfl, ?_⟩
      exact ⟨(by first | rfl | exact s0 | simp only [go_sem, s0, List.length_append, List.map_append]), (by first | rfl | exact s3 | simp only [go_sem, s3, List.length_append, List.map_append])⟩
    · rw [if_f hc5] at hm1
      simp only [cw_exit, qseq_exit, qblock_same, qblock_ne, qblock_normal, qseq_normal, Nat.reduceEqDiff, not_false_eq_true]
      obtain rfl := Option.some.inj hm1
      obtain rfl := hb3 _ rfl
      try dsimp only at hm0
      exact J2 n_3 _ _ s3 hm0

end Go.Nw.DM

namespace Go.Nw.DM
open Go.Nw.Door
set_option linter.unusedSimpArgs false
set_option linter.unusedVariables false
variable {O : Orac}

theorem k_r03_Shows (hf : Has O "newel/newelref03.Shows" x_r03_Shows) (k_r03_CheckTrials : C_r03_CheckTrials O) (k_r03_within : C_r03_within O) (k_r03_shown : C_r03_shown O) (k_r03_members : C_r03_members O) : C_r03_Shows O := by
  intro c l trial r hm0
  unfold r03_Shows at hm0
  refine fn_cw hf rfl (fz_cons (.agg _ (fz_cons (frz_v _) (fz_cons (frz_fs fun a _ => fz_eI a) (fz_cons (frz_fs fun a _ => fz_eWire a) fz_nil)))) (fz_cons (frz_fs fun a _ => fz_eTrial a) (fz_cons (frz_v _) fz_nil))) (.tup _ (fz_cons (frz_fs fun a _ => fz_eI a) (fz_cons (frz_v _) fz_nil))) ?_
  refine cw_start (fun t h => t 0 = .agg [I c.Hazards, .fs 1 (List.map eI c.Switches), .fs 2 (List.map eWire c.Wires)] ∧ t 1 = .fs 2 (List.map eTrial l) ∧ t 2 = I trial) ⟨rfl, rfl, rfl⟩ fun t h ⟨s0, s1, s2⟩ => ?_
  simp only [x_r03_Shows]
  refine cw_reg_seq fun K hK => ?_
  simp only [go_sem, s0]
  refine hK _ _ ?_
  clear hK K
  refine cw_assoc ?_
  obtain ⟨y2, h_y2, hm0⟩ := bind_get hm0
  refine cw_reg_seq fun K hK => ?_
  simp only [go_sem, s1]
  refine icall_fn (k_r03_CheckTrials c l _ h_y2) ?_
  simp only [go_sem, s1]
  refine hK _ _ ?_
  clear hK K
  refine cw_assoc ?_
  refine cw_reg_seq fun K hK => ?_
  simp only [go_sem]
  refine hK _ _ ?_
  clear hK K
  refine cw_seq_k fun K3 hK3 => ?_
  simp only [go_sem]
  refine ibr_intro (fun hc4 => ?_) (fun hc4 => ?_)
  · rw [if_t hc4] at hm0
    refine cw_reg_seq fun K hK => ?_
    simp only [go_sem]
    refine hK _ _ ?_
    clear hK K
    simp only [cw_ret, qseq_ret, qblock_ret, retQ_ret]
    obtain rfl := Option.some.inj hm0
    exact done_fz2 (v := .v (.slice none 0 0)) (u := I y2) (by simp only [go_sem, List.length_append, List.map_append]) (by simp only [go_sem, List.length_append, List.map_append]) (.nil _) (.refl _ (frz_v _))
  · rw [if_f hc4] at hm0
    simp only [cw_skip, qblock_normal, qseq_normal]
    refine hK3 _ _ ?_
    refine cw_assoc ?_
    refine cw_reg_seq fun K hK => ?_
    simp only [go_sem, s1, s2]
    refine icall_fn (k_r03_within trial 0 (wr ((List.length l : Int) - 1))) ?_
    simp only [go_sem, s1, s2]
    refine hK _ _ ?_
    clear hK K
    refine cw_seq_k fun K5 hK5 => ?_
    simp only [go_sem]
    refine ibr_intro (fun hc6 => ?_) (fun hc6 => ?_)
    · rw [if_t hc6] at hm0
      refine cw_reg_seq fun K hK => ?_
      simp only [go_sem]
      refine hK _ _ ?_
      clear hK K
      simp only [cw_ret, qseq_ret, qblock_ret, retQ_ret]
      obtain rfl := Option.some.inj hm0
      exact done_fz2 (v := .v (.slice none 0 0)) (u := I 1) (by simp only [go_sem, List.length_append, List.map_append]) (by simp only [go_sem, List.length_append, List.map_append]) (.nil _) (.refl _ (frz_v _))
    · rw [if_f hc6] at hm0
      simp only [cw_skip, qblock_normal, qseq_normal]
      refine hK5 _ _ ?_
      obtain ⟨x10, h_x10, hm0⟩ := bind_get hm0
      have h_x100 := get_nn h_x10
      have h_x101 := get_lt h_x10
      obtain ⟨y11, h_y11, hm0⟩ := bind_get hm0
      obtain ⟨y12, h_y12, hm0⟩ := bind_get hm0
      refine cw_reg_seq fun K hK => ?_
      simp only [go_sem, s1, s2, ielem_get h_x10, irow_get h_x10, h_x100, h_x101]
      refine icall_fn (k_r03_shown c x10 _ h_y11) ?_
      simp only [go_sem, s1, s2, ielem_get h_x10, irow_get h_x10, h_x100, h_x101]
      refine icall_fn (k_r03_members y11 (List.length c.Switches : Int) _ h_y12) ?_
      simp only [go_sem, s1, s2, ielem_get h_x10, irow_get h_x10, h_x100, h_x101]
      refine hK _ _ ?_
      clear hK K
      simp only [cw_ret, qseq_ret, qblock_ret, retQ_ret]
      obtain rfl := Option.some.inj hm0
      exact done_t2 (by simp only [go_sem, List.length_append, List.map_append]) (by simp only [go_sem, List.length_append, List.map_append]) (frz_fs fun a _ => fz_eI a) (frz_v _)

end Go.Nw.DM
