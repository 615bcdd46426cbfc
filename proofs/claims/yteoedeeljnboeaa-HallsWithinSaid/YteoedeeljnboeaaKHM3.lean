/- That the texts make what their models say: printed by a program. -/
import Derived.Test.YteoedeeljnboeaaHM
set_option linter.all false
set_option linter.unusedVariables false
set_option linter.unusedSimpArgs false
set_option linter.unusedSectionVars false
namespace Go.Nw.HM
open Go.Nw.Halls
set_option linter.unusedSimpArgs false
set_option linter.unusedVariables false
set_option maxHeartbeats 4000000
variable {O : Orac}

theorem k_r06_Fits (hf : Has O "newel/newelref06.Fits" x_r06_Fits) (k_r06_within : C_r06_within O) : C_r06_Fits O := by
  intro h_ d r hm0
  unfold r06_Fits at hm0
  refine fn_cw hf rfl (fz_cons (.agg _ (fz_cons (frz_fs fun a _ => fz_eComb a) (fz_cons (frz_fs fun a _ => fz_eTrain a) (fz_cons (frz_fs fun a _ => fz_eShift a) (fz_cons (frz_v _) fz_nil))))) (fz_cons (.agg _ (fz_cons (frz_fs fun a _ => fz_eI a) (fz_cons (frz_fs fun a _ => fz_eL_I a) (fz_cons (frz_fs fun a _ => fz_eL_I a) fz_nil)))) fz_nil)) (frz_v _) ?_
  refine cw_start (fun t h => t 0 = .agg [.fs 5 (List.map eComb h_.Combs), .fs 3 (List.map eTrain h_.Trains), .fs 3 (List.map eShift h_.Shifts), I h_.Until] ∧ t 1 = .agg [.fs 1 (List.map eI d.At), .fs 1 (List.map eL_I d.People), .fs 1 (List.map eL_I d.Walks)]) ⟨rfl, rfl⟩ fun t h ⟨s0, s1⟩ => ?_
  simp only [x_r06_Fits]
  refine cw_reg_seq fun K hK => ?_
  simp only [go_sem, s0, s1]
  refine hK _ _ ?_
  clear hK K
  refine cw_assoc ?_
  refine cw_reg_postK (fun t h => t 2 = .fp [.fs 5 (List.map eComb h_.Combs), .fs 3 (List.map eTrain h_.Trains), .fs 3 (List.map eShift h_.Shifts), I h_.Until] 0 ∧ t 3 = .fp [.fs 1 (List.map eI d.At), .fs 1 (List.map eL_I d.People), .fs 1 (List.map eL_I d.Walks)] 0 ∧ t 34 = B (((decide (¬(List.length d.At : Int) = (List.length h_.Trains : Int))) || (decide (¬(List.length d.People : Int) = (List.length h_.Trains : Int)))) || (decide (¬(List.length d.Walks : Int) = (List.length h_.Combs : Int))))) (fun K hK => ?_) ?_
  · simp only [go_sem]
    refine ibr_intro (fun hg1 => ?_) (fun hg1 => ?_)
    · simp only [go_sem, hg1]
      exact hK _ _ ⟨(by first | (simp only [go_sem, hg1, List.length_append, List.map_append]; done) | rfl), (by first | (simp only [go_sem, hg1, List.length_append, List.map_append]; done) | rfl), (by first | (simp only [go_sem, hg1, List.length_append, List.map_append]; done) | rfl)⟩
    · simp only [go_sem, hg1]
      refine ibr_intro (fun hg2 => ?_) (fun hg2 => ?_)
      · simp only [go_sem, hg1, hg2]
        exact hK _ _ ⟨(by first | (simp only [go_sem, hg1, hg2, List.length_append, List.map_append]; done) | rfl), (by first | (simp only [go_sem, hg1, hg2, List.length_append, List.map_append]; done) | rfl), (by first | (simp only [go_sem, hg1, hg2, List.length_append, List.map_append]; done) | rfl)⟩
      · simp only [go_sem, hg1, hg2]
        exact hK _ _ ⟨(by first | (simp only [go_sem, hg1, hg2, List.length_append, List.map_append]; done) | rfl), (by first | (simp only [go_sem, hg1, hg2, List.length_append, List.map_append]; done) | rfl), (by first | (simp only [go_sem, hg1, hg2, List.length_append, List.map_append]; done) | rfl)⟩
  · rintro t h ⟨s2, s3, s34⟩
    refine cw_seq_k fun K3 hK3 => ?_
    simp only [go_sem, s34]
    refine ibr_intro (fun hc4 => ?_) (fun hc4 => ?_)
    · rw [if_t hc4] at hm0
      refine cw_reg_seq fun K hK => ?_
      simp only [go_sem]
      refine hK _ _ ?_
      clear hK K
      simp only [cw_ret, qseq_ret, qblock_ret, retQ_ret]
      obtain rfl := Option.some.inj hm0
      exact done_t (by simp only [go_sem, List.length_append, List.map_append]) (frz_v _)
    · rw [if_f hc4] at hm0
      simp only [cw_skip, qblock_normal, qseq_normal]
      refine hK3 _ _ ?_
      refine cw_assoc ?_
      refine cw_reg_seq fun K hK => ?_
      simp only [go_sem]
      refine hK _ _ ?_
      clear hK K
      refine cw_seq_k fun K5 hK5 => ?_
      have J6 : ∀ (t : Slots) (h : Heap), t 2 = .fp [.fs 5 (List.map eComb h_.Combs), .fs 3 (List.map eTrain h_.Trains), .fs 3 (List.map eShift h_.Shifts), I h_.Until] 0 → t 3 = .fp [.fs 1 (List.map eI d.At), .fs 1 (List.map eL_I d.People), .fs 1 (List.map eL_I d.Walks)] 0 → r06_Fits_j6 h_ d = some r → K5 t h := by
        intro t h s2 s3 hm0
        refine hK5 _ _ ?_
        unfold r06_Fits_j6 at hm0
        refine cw_assoc ?_
        refine cw_reg_seq fun K hK => ?_
        simp only [go_sem]
        refine hK _ _ ?_
        clear hK K
        refine cw_seq_k fun K7 hK7 => ?_
        have J8 : ∀ (t : Slots) (h : Heap), r06_Fits_j8 = some r → K7 t h := by
          intro t h hm0
          refine hK7 _ _ ?_
          unfold r06_Fits_j8 at hm0
          refine cw_reg_seq fun K hK => ?_
          simp only [go_sem]
          refine hK _ _ ?_
          clear hK K
          simp only [cw_ret, qseq_ret, qblock_ret, retQ_ret]
          obtain rfl := Option.some.inj hm0
          exact done_t (by simp only [go_sem, List.length_append, List.map_append]) (frz_v _)
        simp only [cw_block]
        obtain ⟨b9, hl9, hm0⟩ := bind_get hm0
        refine cw_loopM hl9 (fun | i_8, t, h => t 2 = .fp [.fs 5 (List.map eComb h_.Combs), .fs 3 (List.map eTrain h_.Trains), .fs 3 (List.map eShift h_.Shifts), I h_.Until] 0 ∧ t 3 = .fp [.fs 1 (List.map eI d.At), .fs 1 (List.map eL_I d.People), .fs 1 (List.map eL_I d.Walks)] 0 ∧ t 8 = I i_8) ?_ ?_
        · exact ⟨s2, s3, (by first | (simp only [go_sem, List.length_append, List.map_append]; done) | rfl)⟩
        · rintro i_8 o t h ⟨s2, s3, s8⟩ hm1 hb9
          simp only [r06_Fits_L27] at hm1
          rw [x_r06_Fits_L27]
          refine cw_assoc ?_
          refine cw_reg_seq fun K hK => ?_
          simp only [go_sem, s2, s8]
          refine hK _ _ ?_
          clear hK K
          refine cw_seq_k fun K10 hK10 => ?_
          simp only [go_sem]
          refine ibr_intro (fun hc11 => ?_) (fun hc11 => ?_)
          · rw [if_t hc11] at hm1
            simp only [cw_skip, qblock_normal, qseq_normal]
            refine hK10 _ _ ?_
            refine cw_seq_k fun K12 hK12 => ?_
            have J13 : ∀ (t : Slots) (h : Heap), t 2 = .fp [.fs 5 (List.map eComb h_.Combs), .fs 3 (List.map eTrain h_.Trains), .fs 3 (List.map eShift h_.Shifts), I h_.Until] 0 → t 3 = .fp [.fs 1 (List.map eI d.At), .fs 1 (List.map eL_I d.People), .fs 1 (List.map eL_I d.Walks)] 0 → t 8 = I i_8 → r06_Fits_j13 i_8 = some o → K12 t h := by
              intro t h s2 s3 s8 hm1
              refine hK12 _ _ ?_
              unfold r06_Fits_j13 at hm1
              refine cw_reg_k fun K hK => ?_
              simp only [go_sem, s8]
              refine hK _ _ ?_
              clear hK K
              simp only [qblock_normal, qseq_normal]
              obtain rfl := Option.some.inj hm1
              refine ⟨_, rfl, ?_⟩
              exact ⟨s2, s3, (by first | (simp only [go_sem, s8, List.length_append, List.map_append]; done) | rfl)⟩
            simp only [cw_block]
            refine cw_assoc ?_
            obtain ⟨x15, h_x15, hm1⟩ := bind_get hm1
            have h_x150 := get_nn h_x15
            have h_x151 := get_lt h_x15
            refine cw_reg_seq fun K hK => ?_
            simp only [go_sem, s3, s8, ielem_get h_x15, irow_get h_x15, h_x150, h_x151]
            refine icall_fn (k_r06_within (List.length x15 : Int) 1 20) ?_
            simp only [go_sem, s3, s8, ielem_get h_x15, irow_get h_x15, h_x150, h_x151]
            refine hK _ _ ?_
            clear hK K
            refine cw_seq_k fun K16 hK16 => ?_
            simp only [go_sem]
            refine ibr_intro (fun hc17 => ?_) (fun hc17 => ?_)
            · rw [if_t hc17] at hm1
              refine cw_reg_seq fun K hK => ?_
              simp only [go_sem]
              refine hK _ _ ?_
              clear hK K
              simp only [cw_ret, qseq_ret, qblock_ret, retQ_ret]
              obtain rfl := Option.some.inj hm1
              obtain rfl := hb9 _ rfl
              try dsimp only at hm0
              obtain rfl := Option.some.inj hm0
              exact done_t (by simp only [go_sem, List.length_append, List.map_append]) (frz_v _)
            · rw [if_f hc17] at hm1
              simp only [cw_skip, qblock_normal, qseq_normal]
              refine hK16 _ _ ?_
              refine cw_reg_seq fun K hK => ?_
              simp only [go_sem]
              refine hK _ _ ?_
              clear hK K
              simp only [cw_block]
              obtain ⟨b18, hl18, hm1⟩ := bind_get hm1
              refine cw_loopM hl18 (fun | k_9, t, h => t 2 = .fp [.fs 5 (List.map eComb h_.Combs), .fs 3 (List.map eTrain h_.Trains), .fs 3 (List.map eShift h_.Shifts), I h_.Until] 0 ∧ t 3 = .fp [.fs 1 (List.map eI d.At), .fs 1 (List.map eL_I d.People), .fs 1 (List.map eL_I d.Walks)] 0 ∧ t 8 = I i_8 ∧ t 9 = I k_9) ?_ ?_
              · exact ⟨s2, s3, s8, (by first | (simp only [go_sem, List.length_append, List.map_append]; done) | rfl)⟩
              · rintro k_9 o t h ⟨s2, s3, s8, s9⟩ hm2 hb18
                simp only [r06_Fits_L25] at hm2
                rw [x_r06_Fits_L25]
                refine cw_assoc ?_
                obtain ⟨x20, h_x20, hm2⟩ := bind_get hm2
                have h_x200 := get_nn h_x20
                have h_x201 := get_lt h_x20
                refine cw_reg_seq fun K hK => ?_
                simp only [go_sem, s3, s8, s9, ielem_get h_x20, irow_get h_x20, h_x200, h_x201]
                refine hK _ _ ?_
                clear hK K
                refine cw_seq_k fun K21 hK21 => ?_
                simp only [go_sem]
                refine ibr_intro (fun hc22 => ?_) (fun hc22 => ?_)
                · rw [if_t hc22] at hm2
                  simp only [cw_skip, qblock_normal, qseq_normal]
                  refine hK21 _ _ ?_
                  refine cw_seq_k fun K23 hK23 => ?_
                  simp only [cw_block]
                  obtain ⟨x26, h_x26, hm2⟩ := bind_get hm2
                  have h_x260 := get_nn h_x26
                  have h_x261 := get_lt h_x26
                  obtain ⟨x27, h_x27, hm2⟩ := bind_get hm2
                  have h_x270 := get_nn h_x27
                  have h_x271 := get_lt h_x27
                  refine cw_reg_seq fun K hK => ?_
                  simp only [go_sem, s2, s3, s8, s9, ielem_get h_x26, irow_get h_x26, h_x260, h_x261, ielem_get h_x27, irow_get h_x27, h_x270, h_x271, ielem_get h_x20, irow_get h_x20, h_x200, h_x201]
                  refine icall_fn (k_r06_within x26 x27.Walk.Low x27.Walk.High) ?_
                  simp only [go_sem, s2, s3, s8, s9, ielem_get h_x26, irow_get h_x26, h_x260, h_x261, ielem_get h_x27, irow_get h_x27, h_x270, h_x271, ielem_get h_x20, irow_get h_x20, h_x200, h_x201]
                  refine hK _ _ ?_
                  clear hK K
                  simp only [go_sem]
                  refine ibr_intro (fun hc28 => ?_) (fun hc28 => ?_)
                  · rw [if_t hc28] at hm2
                    refine cw_reg_seq fun K hK => ?_
                    simp only [go_sem]
                    refine hK _ _ ?_
                    clear hK K
                    simp only [cw_ret, qseq_ret, qblock_ret, retQ_ret]
                    obtain rfl := Option.some.inj hm2
                    obtain rfl := hb18 _ rfl
                    try dsimp only at hm1
                    obtain rfl := Option.some.inj hm1
                    obtain rfl := hb9 _ rfl
                    try dsimp only at hm0
                    obtain rfl := Option.some.inj hm0
                    exact done_t (by simp only [go_sem, List.length_append, List.map_append]) (frz_v _)
                  · rw [if_f hc28] at hm2
                    simp only [cw_skip, qblock_normal, qseq_normal]
                    refine hK23 _ _ ?_
                    refine cw_reg_k fun K hK => ?_
                    simp only [go_sem, s9]
                    refine hK _ _ ?_
                    clear hK K
                    simp only [qblock_normal, qseq_normal]
                    obtain rfl := Option.some.inj hm2
                    refine ⟨_, rfl, ?_⟩
                    exact ⟨s2, s3, s8, (by first | (simp only [go_sem, s9, List.length_append, List.map_append]; done) | rfl)⟩
                · rw [if_f hc22] at hm2
                  simp only [cw_exit, qseq_exit, qblock_same, qblock_ne, qblock_normal, qseq_normal, Nat.reduceEqDiff, not_false_eq_true]
                  obtain rfl := Option.some.inj hm2
                  obtain rfl := hb18 _ rfl
                  try dsimp only at hm1
                  exact J13  _ _ s2 s3 s8 hm1
          · rw [if_f hc11] at hm1
            simp only [cw_exit, qseq_exit, qblock_same, qblock_ne, qblock_normal, qseq_normal, Nat.reduceEqDiff, not_false_eq_true]
            obtain rfl := Option.some.inj hm1
            obtain rfl := hb9 _ rfl
            try dsimp only at hm0
            exact J8  _ _  hm0
      simp only [cw_block]
      obtain ⟨b31, hl31, hm0⟩ := bind_get hm0
      refine cw_loopM hl31 (fun | i_5, t, h => t 2 = .fp [.fs 5 (List.map eComb h_.Combs), .fs 3 (List.map eTrain h_.Trains), .fs 3 (List.map eShift h_.Shifts), I h_.Until] 0 ∧ t 3 = .fp [.fs 1 (List.map eI d.At), .fs 1 (List.map eL_I d.People), .fs 1 (List.map eL_I d.Walks)] 0 ∧ t 5 = I i_5) ?_ ?_
      · exact ⟨s2, s3, (by first | (simp only [go_sem, List.length_append, List.map_append]; done) | rfl)⟩
      · rintro i_5 o t h ⟨s2, s3, s5⟩ hm1 hb31
        simp only [r06_Fits_L15] at hm1
        rw [x_r06_Fits_L15]
        refine cw_assoc ?_
        refine cw_reg_seq fun K hK => ?_
        simp only [go_sem, s2, s5]
        refine hK _ _ ?_
        clear hK K
        refine cw_seq_k fun K32 hK32 => ?_
        simp only [go_sem]
        refine ibr_intro (fun hc33 => ?_) (fun hc33 => ?_)
        · rw [if_t hc33] at hm1
          simp only [cw_skip, qblock_normal, qseq_normal]
          refine hK32 _ _ ?_
          refine cw_seq_k fun K34 hK34 => ?_
          have J35 : ∀ (t : Slots) (h : Heap), t 2 = .fp [.fs 5 (List.map eComb h_.Combs), .fs 3 (List.map eTrain h_.Trains), .fs 3 (List.map eShift h_.Shifts), I h_.Until] 0 → t 3 = .fp [.fs 1 (List.map eI d.At), .fs 1 (List.map eL_I d.People), .fs 1 (List.map eL_I d.Walks)] 0 → t 5 = I i_5 → r06_Fits_j35 i_5 = some o → K34 t h := by
            intro t h s2 s3 s5 hm1
            refine hK34 _ _ ?_
            unfold r06_Fits_j35 at hm1
            refine cw_reg_k fun K hK => ?_
            simp only [go_sem, s5]
            refine hK _ _ ?_
            clear hK K
            simp only [qblock_normal, qseq_normal]
            obtain rfl := Option.some.inj hm1
            refine ⟨_, rfl, ?_⟩
            exact ⟨s2, s3, (by first | (simp only [go_sem, s5, List.length_append, List.map_append]; done) | rfl)⟩
          simp only [cw_block]
          obtain ⟨x37, h_x37, hm1⟩ := bind_get hm1
          have h_x370 := get_nn h_x37
          have h_x371 := get_lt h_x37
          refine cw_reg_seq fun K hK => ?_
          simp only [go_sem, s2, s5, ielem_get h_x37, irow_get h_x37, h_x370, h_x371]
          refine hK _ _ ?_
          clear hK K
          refine cw_assoc ?_
          obtain ⟨x41, h_x41, hm1⟩ := bind_get hm1
          have h_x410 := get_nn h_x41
          have h_x411 := get_lt h_x41
          obtain ⟨c43, h_c43, hm1⟩ := bind_get hm1
          refine cw_reg_postK (fun t h => ∃ i6 : Nat, t 2 = .fp [.fs 5 (List.map eComb h_.Combs), .fs 3 (List.map eTrain h_.Trains), .fs 3 (List.map eShift h_.Shifts), I h_.Until] 0 ∧ t 3 = .fp [.fs 1 (List.map eI d.At), .fs 1 (List.map eL_I d.People), .fs 1 (List.map eL_I d.Walks)] 0 ∧ t 5 = I i_5 ∧ t 6 = .rp i6 0 0 ∧ t 71 = B c43 ∧ h.ob i6 = some (3, [[I x37.At.Low, I x37.At.High, .fs 3 (List.map eCrowd x37.Crowds)]]) ∧ i6 < h.nx) (fun K hK => ?_) ?_
          · simp only [go_sem, s3, s5, ielem_get h_x41, irow_get h_x41, h_x410, h_x411]
            refine icall_fn (k_r06_within x41 x37.At.Low x37.At.High) ?_
            simp only [go_sem, s3, s5, ielem_get h_x41, irow_get h_x41, h_x410, h_x411]
            refine ibr_intro (fun hg44 => ?_) (fun hg44 => ?_)
            · simp only [hg44, Bool.not_true, Bool.not_false, eq_self, if_true, if_false, Bool.true_or, Bool.or_true, Bool.false_or, Bool.or_false, Bool.true_and, Bool.and_true, Bool.false_and, Bool.and_false, Bool.false_eq_true] at h_c43
              obtain rfl := Option.some.inj h_c43
              simp only [go_sem, s3, s5, ielem_get h_x41, irow_get h_x41, h_x410, h_x411, hg44]
              exact hK _ _ ⟨h.nx, s2, s3, s5, (by first | (simp only [go_sem, hg44, List.length_append, List.map_append]; done) | rfl), (by first | (simp only [go_sem, hg44, List.length_append, List.map_append]; done) | rfl), (by simp only [go_sem, hg44, List.length_append, List.map_append]), (by simp only [go_sem])⟩
            · simp only [hg44, Bool.not_true, Bool.not_false, eq_self, if_true, if_false, Bool.true_or, Bool.or_true, Bool.false_or, Bool.or_false, Bool.true_and, Bool.and_true, Bool.false_and, Bool.and_false, Bool.false_eq_true] at h_c43
              obtain ⟨x42, h_x42, h_c43⟩ := bind_get h_c43
              have h_x420 := get_nn h_x42
              have h_x421 := get_lt h_x42
              obtain rfl := Option.some.inj h_c43
              simp only [go_sem, s3, s5, ielem_get h_x41, irow_get h_x41, h_x410, h_x411, ielem_get h_x42, irow_get h_x42, h_x420, h_x421, hg44]
              exact hK _ _ ⟨h.nx, s2, s3, s5, (by first | (simp only [go_sem, hg44, List.length_append, List.map_append]; done) | rfl), (by first | (simp only [go_sem, hg44, List.length_append, List.map_append]; done) | rfl), (by simp only [go_sem, hg44, List.length_append, List.map_append]), (by simp only [go_sem])⟩
          · rintro t h ⟨i6, s2, s3, s5, s6, s71, q1, q0⟩
            refine cw_seq_k fun K45 hK45 => ?_
            simp only [go_sem, s71]
            refine ibr_intro (fun hc46 => ?_) (fun hc46 => ?_)
            · rw [if_t hc46] at hm1
              refine cw_reg_seq fun K hK => ?_
              simp only [go_sem, q0]
              refine hK _ _ ?_
              clear hK K
              simp only [cw_ret, qseq_ret, qblock_ret, retQ_ret]
              obtain rfl := Option.some.inj hm1
              obtain rfl := hb31 _ rfl
              try dsimp only at hm0
              obtain rfl := Option.some.inj hm0
              exact done_t (by simp only [go_sem, q1, q0, List.length_append, List.map_append]) (frz_v _)
            · rw [if_f hc46] at hm1
              simp only [cw_skip, qblock_normal, qseq_normal]
              refine hK45 _ _ ?_
              refine cw_reg_seq fun K hK => ?_
              simp only [go_sem, q0]
              refine hK _ _ ?_
              clear hK K
              simp only [cw_block]
              obtain ⟨b47, hl47, hm1⟩ := bind_get hm1
              refine cw_loopM hl47 (fun | k_7, t, h => t 2 = .fp [.fs 5 (List.map eComb h_.Combs), .fs 3 (List.map eTrain h_.Trains), .fs 3 (List.map eShift h_.Shifts), I h_.Until] 0 ∧ t 3 = .fp [.fs 1 (List.map eI d.At), .fs 1 (List.map eL_I d.People), .fs 1 (List.map eL_I d.Walks)] 0 ∧ t 5 = I i_5 ∧ t 6 = .rp i6 0 0 ∧ t 7 = I k_7 ∧ h.ob i6 = some (3, [[I x37.At.Low, I x37.At.High, .fs 3 (List.map eCrowd x37.Crowds)]]) ∧ i6 < h.nx) ?_ ?_
              · exact ⟨s2, s3, s5, s6, (by first | (simp only [go_sem, List.length_append, List.map_append]; done) | rfl), q1, q0⟩
              · rintro k_7 o t h ⟨s2, s3, s5, s6, s7, q1, q0⟩ hm2 hb47
                simp only [r06_Fits_L13] at hm2
                rw [x_r06_Fits_L13]
                refine cw_assoc ?_
                refine cw_reg_seq fun K hK => ?_
                simp only [go_sem, s6, s7, q1, q0]
                refine hK _ _ ?_
                clear hK K
                refine cw_seq_k fun K48 hK48 => ?_
                simp only [go_sem]
                refine ibr_intro (fun hc49 => ?_) (fun hc49 => ?_)
                · rw [if_t hc49] at hm2
                  simp only [cw_skip, qblock_normal, qseq_normal]
                  refine hK48 _ _ ?_
                  refine cw_seq_k fun K50 hK50 => ?_
                  simp only [cw_block]
                  obtain ⟨x54, h_x54, hm2⟩ := bind_get hm2
                  have h_x540 := get_nn h_x54
                  have h_x541 := get_lt h_x54
                  obtain ⟨x55, h_x55, hm2⟩ := bind_get hm2
                  have h_x550 := get_nn h_x55
                  have h_x551 := get_lt h_x55
                  obtain ⟨x56, h_x56, hm2⟩ := bind_get hm2
                  have h_x560 := get_nn h_x56
                  have h_x561 := get_lt h_x56
                  refine cw_reg_seq fun K hK => ?_
                  simp only [go_sem, s3, s5, s6, s7, q1, q0, ielem_get h_x54, irow_get h_x54, h_x540, h_x541, ielem_get h_x55, irow_get h_x55, h_x550, h_x551, ielem_get h_x56, irow_get h_x56, h_x560, h_x561]
                  refine icall_fn (k_r06_within x55 x56.People.Low x56.People.High) ?_
                  simp only [go_sem, s3, s5, s6, s7, q1, q0, ielem_get h_x54, irow_get h_x54, h_x540, h_x541, ielem_get h_x55, irow_get h_x55, h_x550, h_x551, ielem_get h_x56, irow_get h_x56, h_x560, h_x561]
                  refine hK _ _ ?_
                  clear hK K
                  simp only [go_sem]
                  refine ibr_intro (fun hc57 => ?_) (fun hc57 => ?_)
                  · rw [if_t hc57] at hm2
                    refine cw_reg_seq fun K hK => ?_
                    simp only [go_sem, q0]
                    refine hK _ _ ?_
                    clear hK K
                    simp only [cw_ret, qseq_ret, qblock_ret, retQ_ret]
                    obtain rfl := Option.some.inj hm2
                    obtain rfl := hb47 _ rfl
                    try dsimp only at hm1
                    obtain rfl := Option.some.inj hm1
                    obtain rfl := hb31 _ rfl
                    try dsimp only at hm0
                    obtain rfl := Option.some.inj hm0
                    exact done_t (by simp only [go_sem, q1, q0, List.length_append, List.map_append]) (frz_v _)
                  · rw [if_f hc57] at hm2
                    simp only [cw_skip, qblock_normal, qseq_normal]
                    refine hK50 _ _ ?_
                    refine cw_reg_k fun K hK => ?_
                    simp only [go_sem, s7, q0]
                    refine hK _ _ ?_
                    clear hK K
                    simp only [qblock_normal, qseq_normal]
                    obtain rfl := Option.some.inj hm2
                    refine ⟨_, rfl, ?_⟩
                    exact ⟨s2, s3, s5, s6, (by first | (simp only [go_sem, s7, List.length_append, List.map_append]; done) | rfl), q1, q0⟩
                · rw [if_f hc49] at hm2
                  simp only [cw_exit, qseq_exit, qblock_same, qblock_ne, qblock_normal, qseq_normal, Nat.reduceEqDiff, not_false_eq_true]
                  obtain rfl := Option.some.inj hm2
                  obtain rfl := hb47 _ rfl
                  try dsimp only at hm1
                  exact J35  _ _ s2 s3 s5 hm1
        · rw [if_f hc33] at hm1
          simp only [cw_exit, qseq_exit, qblock_same, qblock_ne, qblock_normal, qseq_normal, Nat.reduceEqDiff, not_false_eq_true]
          obtain rfl := Option.some.inj hm1
          obtain rfl := hb31 _ rfl
          try dsimp only at hm0
          exact J6  _ _ s2 s3 hm0

end Go.Nw.HM
