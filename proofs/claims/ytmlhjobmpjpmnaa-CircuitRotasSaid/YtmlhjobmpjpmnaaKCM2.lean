/- That the texts make what their models say: printed by a program. -/
import Derived.Test.YtmlhjobmpjpmnaaCM
set_option linter.all false
set_option linter.unusedVariables false
set_option linter.unusedSimpArgs false
set_option linter.unusedSectionVars false
namespace Go.Nw.CM
open Go.Nw.Circ
set_option linter.unusedSimpArgs false
set_option linter.unusedVariables false
variable {O : Orac}

theorem k_r03_shown (hf : Has O "newel/newelref03.shown" x_r03_shown) (k_r03_Tells : C_r03_Tells O) : C_r03_shown O := by
  intro c t_ r hm0
  unfold r03_shown at hm0
  refine fn_cw hf rfl (fz_cons (.agg _ (fz_cons (frz_v _) (fz_cons (frz_fs fun a _ => fz_eI a) (fz_cons (frz_fs fun a _ => fz_eWire a) fz_nil)))) (fz_cons (.agg _ (fz_cons (frz_v _) (fz_cons (frz_v _) fz_nil))) fz_nil)) (frz_v _) ?_
  refine cw_start (fun t h => t 0 = .agg [I c.Hazards, .fs 1 (List.map eI c.Switches), .fs 2 (List.map eWire c.Wires)] ∧ t 1 = .agg [I t_.Hazards, I t_.Wire]) ⟨rfl, rfl⟩ fun t h ⟨s0, s1⟩ => ?_
  simp only [x_r03_shown]
  refine cw_reg_seq fun K hK => ?_
  simp only [go_sem, s0, s1]
  refine hK _ _ ?_
  clear hK K
  refine cw_reg_seq fun K hK => ?_
  simp only [go_sem]
  refine hK _ _ ?_
  clear hK K
  refine cw_assoc ?_
  refine cw_reg_seq fun K hK => ?_
  simp only [go_sem]
  refine hK _ _ ?_
  clear hK K
  refine cw_seq_k fun K1 hK1 => ?_
  have J2 : ∀ (set_5 : Int) (t : Slots) (h : Heap), t 5 = I set_5 → r03_shown_j2 set_5 = some r → K1 t h := by
    intro set_5 t h s5 hm0
    refine hK1 _ _ ?_
    unfold r03_shown_j2 at hm0
    refine cw_reg_seq fun K hK => ?_
    simp only [go_sem, s5]
    refine hK _ _ ?_
    clear hK K
    simp only [cw_ret, qseq_ret, qblock_ret, retQ_ret]
    obtain rfl := Option.some.inj hm0
    exact done_t (by simp only [go_sem, List.length_append, List.map_append]) (frz_v _)
  simp only [cw_block]
  obtain ⟨b3, hl3, hm0⟩ := bind_get hm0
  refine cw_loopM hl3 (fun | (set_5, i_6), t, h => t 2 = .fp [I c.Hazards, .fs 1 (List.map eI c.Switches), .fs 2 (List.map eWire c.Wires)] 0 ∧ t 3 = .fp [I t_.Hazards, I t_.Wire] 0 ∧ t 5 = I set_5 ∧ t 6 = I i_6) ?_ ?_
  · exact ⟨(by first | rfl | simp only [go_sem, List.length_append, List.map_append]), (by first | rfl | simp only [go_sem, List.length_append, List.map_append]), (by first | rfl | simp only [go_sem, List.length_append, List.map_append]), (by first | rfl | simp only [go_sem, List.length_append, List.map_append])⟩
  · rintro ⟨set_5, i_6⟩ o t h ⟨s2, s3, s5, s6⟩ hm1 hb3
    simp only [r03_shown_L7] at hm1
    rw [x_r03_shown_L7]
    refine cw_assoc ?_
    refine cw_reg_seq fun K hK => ?_
    simp only [go_sem, s2, s6]
    refine hK _ _ ?_
    clear hK K
    refine cw_seq_k fun K4 hK4 => ?_
    simp only [go_sem]
    refine ibr_intro (fun hc5 => ?_) (fun hc5 => ?_)
    · rw [if_t hc5] at hm1
      simp only [cw_skip, qblock_normal, qseq_normal]
      refine hK4 _ _ ?_
      refine cw_seq_k fun K6 hK6 => ?_
      have J7 : ∀ (set_5_1 : Int) (t : Slots) (h : Heap), t 2 = .fp [I c.Hazards, .fs 1 (List.map eI c.Switches), .fs 2 (List.map eWire c.Wires)] 0 → t 3 = .fp [I t_.Hazards, I t_.Wire] 0 → t 5 = I set_5_1 → t 6 = I i_6 → r03_shown_j7 i_6 set_5_1 = some o → K6 t h := by
        intro set_5_1 t h s2 s3 s5 s6 hm1
        refine hK6 _ _ ?_
        unfold r03_shown_j7 at hm1
        refine cw_reg_k fun K hK => ?_
        simp only [go_sem, s6]
        refine hK _ _ ?_
        clear hK K
        simp only [qblock_normal, qseq_normal]
        obtain rfl := Option.some.inj hm1
        refine ⟨_, rfl, ?_⟩
        exact ⟨s2, s3, s5, (by first | rfl | exact s6 | simp only [go_sem, s6, List.length_append, List.map_append])⟩
      simp only [cw_block]
      obtain ⟨q10, h_q10, hm1⟩ := bind_get hm1
      obtain ⟨y11, h_y11, hm1⟩ := bind_get hm1
      refine cw_reg_seq fun K hK => ?_
      simp only [go_sem, s2, s3, s6, ibin_shl h_q10]
      refine icall_fn (k_r03_Tells c t_ q10 _ h_y11) ?_
      simp only [go_sem, s2, s3, s6, ibin_shl h_q10]
      refine hK _ _ ?_
      clear hK K
      simp only [go_sem]
      refine ibr_intro (fun hc12 => ?_) (fun hc12 => ?_)
      · rw [if_t hc12] at hm1
        refine cw_reg_k fun K hK => ?_
        simp only [go_sem, s5, s6, ibin_shl h_q10]
        refine hK _ _ ?_
        clear hK K
        simp only [qblock_normal, qseq_normal]
        exact J7 (bor set_5 q10) _ _ s2 s3 (by first | rfl | exact s5 | simp only [go_sem, s5, List.length_append, List.map_append]) s6 hm1
      · rw [if_f hc12] at hm1
        simp only [cw_skip, qblock_normal, qseq_normal]
        exact J7 set_5 _ _ s2 s3 s5 s6 hm1
    · rw [if_f hc5] at hm1
      simp only [cw_exit, qseq_exit, qblock_same, qblock_ne, qblock_normal, qseq_normal, Nat.reduceEqDiff, not_false_eq_true]
      obtain rfl := Option.some.inj hm1
      obtain rfl := hb3 _ rfl
      try dsimp only at hm0
      exact J2 set_5 _ _ s5 hm0

end Go.Nw.CM

namespace Go.Nw.CM
open Go.Nw.Circ
set_option linter.unusedSimpArgs false
set_option linter.unusedVariables false
variable {O : Orac}

theorem k_r03_within (hf : Has O "newel/newelref03.within" x_r03_within) : C_r03_within O := by
  intro n low high
  generalize hm0 : r03_within n low high = r
  unfold r03_within at hm0
  refine fn_cw hf rfl (fz_cons (frz_v _) (fz_cons (frz_v _) (fz_cons (frz_v _) fz_nil))) (frz_v _) ?_
  refine cw_start (fun t h => t 0 = I n ∧ t 1 = I low ∧ t 2 = I high) ⟨rfl, rfl, rfl⟩ fun t h ⟨s0, s1, s2⟩ => ?_
  simp only [x_r03_within]
  refine cw_reg_seq fun K hK => ?_
  simp only [go_sem]
  refine hK _ _ ?_
  clear hK K
  refine cw_reg_postK (fun t h => t 6 = B ((decide (low ≤ n)) && (decide (n ≤ high)))) (fun K hK => ?_) ?_
  · simp only [go_sem, s0, s1, s2]
    refine ibr_intro (fun hg1 => ?_) (fun hg1 => ?_)
    · simp only [go_sem, s0, s1, s2, hg1]
      exact hK _ _ (by first | rfl | simp only [go_sem, hg1, List.length_append, List.map_append])
    · simp only [go_sem, s0, s1, s2, hg1]
      exact hK _ _ (by first | rfl | simp only [go_sem, hg1, List.length_append, List.map_append])
  · rintro t h s6
    simp only [cw_ret, qseq_ret, qblock_ret, retQ_ret]
    obtain rfl := hm0
    exact done_t (by simp only [go_sem, s6, List.length_append, List.map_append]) (frz_v _)

end Go.Nw.CM

namespace Go.Nw.CM
open Go.Nw.Circ
set_option linter.unusedSimpArgs false
set_option linter.unusedVariables false
variable {O : Orac}

theorem k_slices_ContainsFunc___int_int_ (hf : Has O "slices.ContainsFunc[[]int,int]" x_slices_ContainsFunc___int_int_) (k_slices_IndexFunc___int_int_ : C_slices_IndexFunc___int_int_ O) : C_slices_ContainsFunc___int_int_ O := by
  intro s f_n f_a f_b f f_z f_h r hm0
  unfold slices_ContainsFunc___int_int_ at hm0
  refine fn_cw hf rfl (fz_cons (frz_fs fun a _ => fz_eI a) (fz_cons f_z fz_nil)) (frz_v _) ?_
  refine cw_start (fun t h => t 0 = .fs 1 (List.map eI s) ∧ t 1 = .fn f_n f_a f_b) ⟨rfl, rfl⟩ fun t h ⟨s0, s1⟩ => ?_
  simp only [x_slices_ContainsFunc___int_int_]
  refine cw_reg_seq fun K hK => ?_
  simp only [go_sem]
  refine hK _ _ ?_
  clear hK K
  obtain ⟨y2, h_y2, hm0⟩ := bind_get hm0
  refine cw_reg_seq fun K hK => ?_
  simp only [go_sem, s0, s1]
  refine icall_fn (k_slices_IndexFunc___int_int_ s f_n f_a f_b f f_z f_h _ h_y2) ?_
  simp only [go_sem, s0, s1]
  refine hK _ _ ?_
  clear hK K
  simp only [cw_ret, qseq_ret, qblock_ret, retQ_ret]
  obtain rfl := Option.some.inj hm0
  exact done_t (by simp only [go_sem, List.length_append, List.map_append]) (frz_v _)

end Go.Nw.CM

namespace Go.Nw.CM
open Go.Nw.Circ
set_option linter.unusedSimpArgs false
set_option linter.unusedVariables false
variable {O : Orac}

theorem k_slices_Contains___bool_bool_ (hf : Has O "slices.Contains[[]bool,bool]" x_slices_Contains___bool_bool_) (k_slices_Index___bool_bool_ : C_slices_Index___bool_bool_ O) : C_slices_Contains___bool_bool_ O := by
  intro s v r hm0
  unfold slices_Contains___bool_bool_ at hm0
  refine fn_cw hf rfl (fz_cons (frz_fs fun a _ => fz_eB a) (fz_cons (frz_v _) fz_nil)) (frz_v _) ?_
  refine cw_start (fun t h => t 0 = .fs 1 (List.map eB s) ∧ t 1 = B v) ⟨rfl, rfl⟩ fun t h ⟨s0, s1⟩ => ?_
  simp only [x_slices_Contains___bool_bool_]
  refine cw_reg_seq fun K hK => ?_
  simp only [go_sem]
  refine hK _ _ ?_
  clear hK K
  obtain ⟨y2, h_y2, hm0⟩ := bind_get hm0
  refine cw_reg_seq fun K hK => ?_
  simp only [go_sem, s0, s1]
  refine icall_fn (k_slices_Index___bool_bool_ s v _ h_y2) ?_
  simp only [go_sem, s0, s1]
  refine hK _ _ ?_
  clear hK K
  simp only [cw_ret, qseq_ret, qblock_ret, retQ_ret]
  obtain rfl := Option.some.inj hm0
  exact done_t (by simp only [go_sem, List.length_append, List.map_append]) (frz_v _)

end Go.Nw.CM

namespace Go.Nw.CM
open Go.Nw.Circ
set_option linter.unusedSimpArgs false
set_option linter.unusedVariables false
variable {O : Orac}

theorem k_slices_Contains___int_int_ (hf : Has O "slices.Contains[[]int,int]" x_slices_Contains___int_int_) (k_slices_Index___int_int_ : C_slices_Index___int_int_ O) : C_slices_Contains___int_int_ O := by
  intro s v r hm0
  unfold slices_Contains___int_int_ at hm0
  refine fn_cw hf rfl (fz_cons (frz_fs fun a _ => fz_eI a) (fz_cons (frz_v _) fz_nil)) (frz_v _) ?_
  refine cw_start (fun t h => t 0 = .fs 1 (List.map eI s) ∧ t 1 = I v) ⟨rfl, rfl⟩ fun t h ⟨s0, s1⟩ => ?_
  simp only [x_slices_Contains___int_int_]
  refine cw_reg_seq fun K hK => ?_
  simp only [go_sem]
  refine hK _ _ ?_
  clear hK K
  obtain ⟨y2, h_y2, hm0⟩ := bind_get hm0
  refine cw_reg_seq fun K hK => ?_
  simp only [go_sem, s0, s1]
  refine icall_fn (k_slices_Index___int_int_ s v _ h_y2) ?_
  simp only [go_sem, s0, s1]
  refine hK _ _ ?_
  clear hK K
  simp only [cw_ret, qseq_ret, qblock_ret, retQ_ret]
  obtain rfl := Option.some.inj hm0
  exact done_t (by simp only [go_sem, List.length_append, List.map_append]) (frz_v _)

end Go.Nw.CM

namespace Go.Nw.CM
open Go.Nw.Circ
set_option linter.unusedSimpArgs false
set_option linter.unusedVariables false
variable {O : Orac}

theorem k_slices_IndexFunc___int_int_ (hf : Has O "slices.IndexFunc[[]int,int]" x_slices_IndexFunc___int_int_) : C_slices_IndexFunc___int_int_ O := by
  intro s f_n f_a f_b f f_z f_h r hm0
  unfold slices_IndexFunc___int_int_ at hm0
  refine fn_cw hf rfl (fz_cons (frz_fs fun a _ => fz_eI a) (fz_cons f_z fz_nil)) (frz_v _) ?_
  refine cw_start (fun t h => t 0 = .fs 1 (List.map eI s) ∧ t 1 = .fn f_n f_a f_b) ⟨rfl, rfl⟩ fun t h ⟨s0, s1⟩ => ?_
  simp only [x_slices_IndexFunc___int_int_]
  refine cw_reg_seq fun K hK => ?_
  simp only [go_sem]
  refine hK _ _ ?_
  clear hK K
  refine cw_assoc ?_
  refine cw_reg_seq fun K hK => ?_
  simp only [go_sem, s0]
  refine hK _ _ ?_
  clear hK K
  refine cw_seq_k fun K1 hK1 => ?_
  have J2 : ∀ (t : Slots) (h : Heap), slices_IndexFunc___int_int__j2 = some r → K1 t h := by
    intro t h hm0
    refine hK1 _ _ ?_
    unfold slices_IndexFunc___int_int__j2 at hm0
    refine cw_reg_seq fun K hK => ?_
    simp only [go_sem]
    refine hK _ _ ?_
    clear hK K
    simp only [cw_ret, qseq_ret, qblock_ret, retQ_ret]
    obtain rfl := Option.some.inj hm0
    exact done_t (by simp only [go_sem, List.length_append, List.map_append]) (frz_v _)
  simp only [cw_block]
  obtain ⟨b3, hl3, hm0⟩ := bind_get hm0
  refine cw_loopM hl3 (fun | x_8, t, h => t 0 = .fs 1 (List.map eI s) ∧ t 1 = .fn f_n f_a f_b ∧ t 7 = I (List.length s : Int) ∧ t 8 = I x_8) ?_ ?_
  · exact ⟨s0, s1, (by first | rfl | simp only [go_sem, List.length_append, List.map_append]), (by first | rfl | simp only [go_sem, List.length_append, List.map_append])⟩
  · rintro x_8 o t h ⟨s0, s1, s7, s8⟩ hm1 hb3
    simp only [slices_IndexFunc___int_int__L7] at hm1
    rw [x_slices_IndexFunc___int_int__L7]
    refine cw_reg_seq fun K hK => ?_
    simp only [go_sem, s7, s8]
    refine hK _ _ ?_
    clear hK K
    refine cw_seq_k fun K4 hK4 => ?_
    simp only [go_sem]
    refine ibr_intro (fun hc5 => ?_) (fun hc5 => ?_)
    · rw [if_t hc5] at hm1
      simp only [cw_skip, qblock_normal, qseq_normal]
      refine hK4 _ _ ?_
      refine cw_seq_k fun K6 hK6 => ?_
      simp only [cw_block]
      refine cw_reg_seq fun K hK => ?_
      simp only [go_sem, s8]
      refine hK _ _ ?_
      clear hK K
      obtain ⟨x9, h_x9, hm1⟩ := bind_get hm1
      have h_x90 := get_nn h_x9
      have h_x91 := get_lt h_x9
      obtain ⟨y10, h_y10, hm1⟩ := bind_get hm1
      refine cw_reg_seq fun K hK => ?_
      simp only [go_sem, s0, s1, ielem_get h_x9, irow_get h_x9, h_x90, h_x91]
      refine icallv_fn (f_h x9 _ h_y10) ?_
      simp only [go_sem, s0, s1, ielem_get h_x9, irow_get h_x9, h_x90, h_x91]
      refine hK _ _ ?_
      clear hK K
      simp only [go_sem]
      refine ibr_intro (fun hc11 => ?_) (fun hc11 => ?_)
      · rw [if_t hc11] at hm1
        refine cw_reg_seq fun K hK => ?_
        simp only [go_sem]
        refine hK _ _ ?_
        clear hK K
        simp only [cw_ret, qseq_ret, qblock_ret, retQ_ret]
        obtain rfl := Option.some.inj hm1
        obtain rfl := hb3 _ rfl
        try dsimp only at hm0
        obtain rfl := Option.some.inj hm0
        exact done_t (by simp only [go_sem, List.length_append, List.map_append]) (frz_v _)
      · rw [if_f hc11] at hm1
        simp only [cw_skip, qblock_normal, qseq_normal]
        refine hK6 _ _ ?_
        refine cw_reg_k fun K hK => ?_
        simp only [go_sem, s8]
        refine hK _ _ ?_
        clear hK K
        simp only [qblock_normal, qseq_normal]
        obtain rfl := Option.some.inj hm1
        refine ⟨_, rfl, ?_⟩
        exact ⟨s0, s1, s7, (by first | rfl | exact s8 | simp only [go_sem, s8, List.length_append, List.map_append])⟩
    · rw [if_f hc5] at hm1
      simp only [cw_exit, qseq_exit, qblock_same, qblock_ne, qblock_normal, qseq_normal, Nat.reduceEqDiff, not_false_eq_true]
      obtain rfl := Option.some.inj hm1
      obtain rfl := hb3 _ rfl
      try dsimp only at hm0
      exact J2  _ _  hm0

end Go.Nw.CM

namespace Go.Nw.CM
open Go.Nw.Circ
set_option linter.unusedSimpArgs false
set_option linter.unusedVariables false
variable {O : Orac}

theorem k_slices_Index___bool_bool_ (hf : Has O "slices.Index[[]bool,bool]" x_slices_Index___bool_bool_) : C_slices_Index___bool_bool_ O := by
  intro s v r hm0
  unfold slices_Index___bool_bool_ at hm0
  refine fn_cw hf rfl (fz_cons (frz_fs fun a _ => fz_eB a) (fz_cons (frz_v _) fz_nil)) (frz_v _) ?_
  refine cw_start (fun t h => t 0 = .fs 1 (List.map eB s) ∧ t 1 = B v) ⟨rfl, rfl⟩ fun t h ⟨s0, s1⟩ => ?_
  simp only [x_slices_Index___bool_bool_]
  refine cw_reg_seq fun K hK => ?_
  simp only [go_sem]
  refine hK _ _ ?_
  clear hK K
  refine cw_assoc ?_
  refine cw_reg_seq fun K hK => ?_
  simp only [go_sem, s0]
  refine hK _ _ ?_
  clear hK K
  refine cw_seq_k fun K1 hK1 => ?_
  have J2 : ∀ (t : Slots) (h : Heap), slices_Index___bool_bool__j2 = some r → K1 t h := by
    intro t h hm0
    refine hK1 _ _ ?_
    unfold slices_Index___bool_bool__j2 at hm0
    refine cw_reg_seq fun K hK => ?_
    simp only [go_sem]
    refine hK _ _ ?_
    clear hK K
    simp only [cw_ret, qseq_ret, qblock_ret, retQ_ret]
    obtain rfl := Option.some.inj hm0
    exact done_t (by simp only [go_sem, List.length_append, List.map_append]) (frz_v _)
  simp only [cw_block]
  obtain ⟨b3, hl3, hm0⟩ := bind_get hm0
  refine cw_loopM hl3 (fun | x_8, t, h => t 0 = .fs 1 (List.map eB s) ∧ t 1 = B v ∧ t 7 = I (List.length s : Int) ∧ t 8 = I x_8) ?_ ?_
  · exact ⟨s0, s1, (by first | rfl | simp only [go_sem, List.length_append, List.map_append]), (by first | rfl | simp only [go_sem, List.length_append, List.map_append])⟩
  · rintro x_8 o t h ⟨s0, s1, s7, s8⟩ hm1 hb3
    simp only [slices_Index___bool_bool__L7] at hm1
    rw [x_slices_Index___bool_bool__L7]
    refine cw_reg_seq fun K hK => ?_
    simp only [go_sem, s7, s8]
    refine hK _ _ ?_
    clear hK K
    refine cw_seq_k fun K4 hK4 => ?_
    simp only [go_sem]
    refine ibr_intro (fun hc5 => ?_) (fun hc5 => ?_)
    · rw [if_t hc5] at hm1
      simp only [cw_skip, qblock_normal, qseq_normal]
      refine hK4 _ _ ?_
      refine cw_seq_k fun K6 hK6 => ?_
      simp only [cw_block]
      refine cw_reg_seq fun K hK => ?_
      simp only [go_sem, s8]
      refine hK _ _ ?_
      clear hK K
      obtain ⟨x8, h_x8, hm1⟩ := bind_get hm1
      have h_x80 := get_nn h_x8
      have h_x81 := get_lt h_x8
      refine cw_reg_seq fun K hK => ?_
      simp only [go_sem, s0, s1, ielem_get h_x8, irow_get h_x8, h_x80, h_x81]
      refine hK _ _ ?_
      clear hK K
      simp only [go_sem]
      refine ibr_intro (fun hc9 => ?_) (fun hc9 => ?_)
      · rw [if_t hc9] at hm1
        refine cw_reg_seq fun K hK => ?_
        simp only [go_sem]
        refine hK _ _ ?_
        clear hK K
        simp only [cw_ret, qseq_ret, qblock_ret, retQ_ret]
        obtain rfl := Option.some.inj hm1
        obtain rfl := hb3 _ rfl
        try dsimp only at hm0
        obtain rfl := Option.some.inj hm0
        exact done_t (by simp only [go_sem, List.length_append, List.map_append]) (frz_v _)
      · rw [if_f hc9] at hm1
        simp only [cw_skip, qblock_normal, qseq_normal]
        refine hK6 _ _ ?_
        refine cw_reg_k fun K hK => ?_
        simp only [go_sem, s8]
        refine hK _ _ ?_
        clear hK K
        simp only [qblock_normal, qseq_normal]
        obtain rfl := Option.some.inj hm1
        refine ⟨_, rfl, ?_⟩
        exact ⟨s0, s1, s7, (by first | rfl | exact s8 | simp only [go_sem, s8, List.length_append, List.map_append])⟩
    · rw [if_f hc5] at hm1
      simp only [cw_exit, qseq_exit, qblock_same, qblock_ne, qblock_normal, qseq_normal, Nat.reduceEqDiff, not_false_eq_true]
      obtain rfl := Option.some.inj hm1
      obtain rfl := hb3 _ rfl
      try dsimp only at hm0
      exact J2  _ _  hm0

end Go.Nw.CM

namespace Go.Nw.CM
open Go.Nw.Circ
set_option linter.unusedSimpArgs false
set_option linter.unusedVariables false
variable {O : Orac}

theorem k_slices_Index___int_int_ (hf : Has O "slices.Index[[]int,int]" x_slices_Index___int_int_) : C_slices_Index___int_int_ O := by
  intro s v r hm0
  unfold slices_Index___int_int_ at hm0
  refine fn_cw hf rfl (fz_cons (frz_fs fun a _ => fz_eI a) (fz_cons (frz_v _) fz_nil)) (frz_v _) ?_
  refine cw_start (fun t h => t 0 = .fs 1 (List.map eI s) ∧ t 1 = I v) ⟨rfl, rfl⟩ fun t h ⟨s0, s1⟩ => ?_
  simp only [x_slices_Index___int_int_]
  refine cw_reg_seq fun K hK => ?_
  simp only [go_sem]
  refine hK _ _ ?_
  clear hK K
  refine cw_assoc ?_
  refine cw_reg_seq fun K hK => ?_
  simp only [go_sem, s0]
  refine hK _ _ ?_
  clear hK K
  refine cw_seq_k fun K1 hK1 => ?_
  have J2 : ∀ (t : Slots) (h : Heap), slices_Index___int_int__j2 = some r → K1 t h := by
    intro t h hm0
    refine hK1 _ _ ?_
    unfold slices_Index___int_int__j2 at hm0
    refine cw_reg_seq fun K hK => ?_
    simp only [go_sem]
    refine hK _ _ ?_
    clear hK K
    simp only [cw_ret, qseq_ret, qblock_ret, retQ_ret]
    obtain rfl := Option.some.inj hm0
    exact done_t (by simp only [go_sem, List.length_append, List.map_append]) (frz_v _)
  simp only [cw_block]
  obtain ⟨b3, hl3, hm0⟩ := bind_get hm0
  refine cw_loopM hl3 (fun | x_8, t, h => t 0 = .fs 1 (List.map eI s) ∧ t 1 = I v ∧ t 7 = I (List.length s : Int) ∧ t 8 = I x_8) ?_ ?_
  · exact ⟨s0, s1, (by first | rfl | simp only [go_sem, List.length_append, List.map_append]), (by first | rfl | simp only [go_sem, List.length_append, List.map_append])⟩
  · rintro x_8 o t h ⟨s0, s1, s7, s8⟩ hm1 hb3
    simp only [slices_Index___int_int__L7] at hm1
    rw [x_slices_Index___int_int__L7]
    refine cw_reg_seq fun K hK => ?_
    simp only [go_sem, s7, s8]
    refine hK _ _ ?_
    clear hK K
    refine cw_seq_k fun K4 hK4 => ?_
    simp only [go_sem]
    refine ibr_intro (fun hc5 => ?_) (fun hc5 => ?_)
    · rw [if_t hc5] at hm1
      simp only [cw_skip, qblock_normal, qseq_normal]
      refine hK4 _ _ ?_
      refine cw_seq_k fun K6 hK6 => ?_
      simp only [cw_block]
      refine cw_reg_seq fun K hK => ?_
      simp only [go_sem, s8]
      refine hK _ _ ?_
      clear hK K
      obtain ⟨x8, h_x8, hm1⟩ := bind_get hm1
      have h_x80 := get_nn h_x8
      have h_x81 := get_lt h_x8
      refine cw_reg_seq fun K hK => ?_
      simp only [go_sem, s0, s1, ielem_get h_x8, irow_get h_x8, h_x80, h_x81]
      refine hK _ _ ?_
      clear hK K
      simp only [go_sem]
      refine ibr_intro (fun hc9 => ?_) (fun hc9 => ?_)
      · rw [if_t hc9] at hm1
        refine cw_reg_seq fun K hK => ?_
        simp only [go_sem]
        refine hK _ _ ?_
        clear hK K
        simp only [cw_ret, qseq_ret, qblock_ret, retQ_ret]
        obtain rfl := Option.some.inj hm1
        obtain rfl := hb3 _ rfl
        try dsimp only at hm0
        obtain rfl := Option.some.inj hm0
        exact done_t (by simp only [go_sem, List.length_append, List.map_append]) (frz_v _)
      · rw [if_f hc9] at hm1
        simp only [cw_skip, qblock_normal, qseq_normal]
        refine hK6 _ _ ?_
        refine cw_reg_k fun K hK => ?_
        simp only [go_sem, s8]
        refine hK _ _ ?_
        clear hK K
        simp only [qblock_normal, qseq_normal]
        obtain rfl := Option.some.inj hm1
        refine ⟨_, rfl, ?_⟩
        exact ⟨s0, s1, s7, (by first | rfl | exact s8 | simp only [go_sem, s8, List.length_append, List.map_append])⟩
    · rw [if_f hc5] at hm1
      simp only [cw_exit, qseq_exit, qblock_same, qblock_ne, qblock_normal, qseq_normal, Nat.reduceEqDiff, not_false_eq_true]
      obtain rfl := Option.some.inj hm1
      obtain rfl := hb3 _ rfl
      try dsimp only at hm0
      exact J2  _ _  hm0

end Go.Nw.CM
