/- That the texts make what their models say: printed by a program. -/
import Derived.Test.YteoedeeljnboeaaHM
set_option linter.all false
set_option linter.unusedVariables false
set_option linter.unusedSimpArgs false
set_option linter.unusedSectionVars false
namespace Go.Nw.HM
open Go.Nw.Halls
set_option linter.unusedSimpArgs false
set_option linter.unusedVariables false
set_option maxHeartbeats 4000000
variable {O : Orac}

theorem k_halls_brought (hf : Has O "newel/halls.brought" x_halls_brought) : C_halls_brought O := by
  intro h_ comb from_ to_ r hm0
  unfold halls_brought at hm0
  refine fn_cw hf rfl (fz_cons (.agg _ (fz_cons (frz_fs fun a _ => fz_eComb a) (fz_cons (frz_fs fun a _ => fz_eTrain a) (fz_cons (frz_fs fun a _ => fz_eShift a) (fz_cons (frz_v _) fz_nil))))) (fz_cons (frz_v _) (fz_cons (frz_v _) (fz_cons (frz_v _) fz_nil)))) (frz_v _) ?_
  refine cw_start (fun t h => t 0 = .agg [.fs 5 (List.map eComb h_.Combs), .fs 3 (List.map eTrain h_.Trains), .fs 3 (List.map eShift h_.Shifts), I h_.Until] ∧ t 1 = I comb ∧ t 2 = I from_ ∧ t 3 = I to_) ⟨rfl, rfl, rfl, rfl⟩ fun t h ⟨s0, s1, s2, s3⟩ => ?_
  simp only [x_halls_brought]
  refine cw_reg_seq fun K hK => ?_
  simp only [go_sem, s0]
  refine hK _ _ ?_
  clear hK K
  refine cw_assoc ?_
  refine cw_reg_seq fun K hK => ?_
  simp only [go_sem]
  refine hK _ _ ?_
  clear hK K
  refine cw_seq_k fun K1 hK1 => ?_
  have J2 : ∀ (sum_8 : Int) (t : Slots) (h : Heap), t 8 = I sum_8 → halls_brought_j2 sum_8 = some r → K1 t h := by
    intro sum_8 t h s8 hm0
    refine hK1 _ _ ?_
    unfold halls_brought_j2 at hm0
    refine cw_reg_seq fun K hK => ?_
    simp only [go_sem, s8]
    refine hK _ _ ?_
    clear hK K
    simp only [cw_ret, qseq_ret, qblock_ret, retQ_ret]
    obtain rfl := Option.some.inj hm0
    exact done_t (by simp only [go_sem, s8, List.length_append, List.map_append]) (frz_v _)
  simp only [cw_block]
  obtain ⟨b3, hl3, hm0⟩ := bind_get hm0
  refine cw_loopM hl3 (fun | (sum_8, x_16), t, h => t 1 = I comb ∧ t 2 = I from_ ∧ t 3 = I to_ ∧ t 8 = I sum_8 ∧ t 14 = .fs 3 (List.map eTrain h_.Trains) ∧ t 15 = I (List.length h_.Trains : Int) ∧ t 16 = I x_16) ?_ ?_
  · exact ⟨s1, s2, s3, (by first | (simp only [go_sem, List.length_append, List.map_append]; done) | rfl), (by first | (simp only [go_sem, List.length_append, List.map_append]; done) | rfl), (by first | (simp only [go_sem, List.length_append, List.map_append]; done) | rfl), (by first | (simp only [go_sem, List.length_append, List.map_append]; done) | rfl)⟩
  · rintro ⟨sum_8, x_16⟩ o t h ⟨s1, s2, s3, s8, s14, s15, s16⟩ hm1 hb3
    simp only [halls_brought_L13] at hm1
    rw [x_halls_brought_L13]
    refine cw_reg_seq fun K hK => ?_
    simp only [go_sem, s15, s16]
    refine hK _ _ ?_
    clear hK K
    refine cw_seq_k fun K4 hK4 => ?_
    simp only [go_sem]
    refine ibr_intro (fun hc5 => ?_) (fun hc5 => ?_)
    · rw [if_t hc5] at hm1
      simp only [cw_skip, qblock_normal, qseq_normal]
      refine hK4 _ _ ?_
      refine cw_seq_k fun K6 hK6 => ?_
      have J7 : ∀ (sum_8_1 : Int) (t : Slots) (h : Heap), t 1 = I comb → t 2 = I from_ → t 3 = I to_ → t 8 = I sum_8_1 → t 14 = .fs 3 (List.map eTrain h_.Trains) → t 15 = I (List.length h_.Trains : Int) → t 16 = I x_16 → halls_brought_j7 x_16 sum_8_1 = some o → K6 t h := by
        intro sum_8_1 t h s1 s2 s3 s8 s14 s15 s16 hm1
        refine hK6 _ _ ?_
        unfold halls_brought_j7 at hm1
        refine cw_reg_k fun K hK => ?_
        simp only [go_sem, s16]
        refine hK _ _ ?_
        clear hK K
        simp only [qblock_normal, qseq_normal]
        obtain rfl := Option.some.inj hm1
        refine ⟨_, rfl, ?_⟩
        exact ⟨s1, s2, s3, s8, s14, s15, (by first | (simp only [go_sem, s16, List.length_append, List.map_append]; done) | rfl)⟩
      simp only [cw_block]
      obtain ⟨x9, h_x9, hm1⟩ := bind_get hm1
      have h_x90 := get_nn h_x9
      have h_x91 := get_lt h_x9
      refine cw_reg_seq fun K hK => ?_
      simp only [go_sem, s14, s16, ielem_get h_x9, irow_get h_x9, h_x90, h_x91]
      refine hK _ _ ?_
      clear hK K
      refine cw_assoc ?_
      refine cw_reg_postK (fun t h => ∃ i10 : Nat, t 1 = I comb ∧ t 2 = I from_ ∧ t 3 = I to_ ∧ t 8 = I sum_8 ∧ t 10 = .rp i10 0 0 ∧ t 14 = .fs 3 (List.map eTrain h_.Trains) ∧ t 15 = I (List.length h_.Trains : Int) ∧ t 16 = I x_16 ∧ t 31 = B ((decide (x9.At.High < from_)) || (decide (to_ < x9.At.Low))) ∧ h.ob i10 = some (3, [[I x9.At.Low, I x9.At.High, .fs 3 (List.map eCrowd x9.Crowds)]]) ∧ i10 < h.nx) (fun K hK => ?_) ?_
      · simp only [go_sem, s2, s3]
        refine ibr_intro (fun hg10 => ?_) (fun hg10 => ?_)
        · simp only [go_sem, s2, s3, hg10]
          exact hK _ _ ⟨h.nx, s1, s2, s3, s8, (by first | (simp only [go_sem, hg10, List.length_append, List.map_append]; done) | rfl), s14, s15, s16, (by first | (simp only [go_sem, hg10, List.length_append, List.map_append]; done) | rfl), (by simp only [go_sem, hg10, List.length_append, List.map_append]), (by simp only [go_sem])⟩
        · simp only [go_sem, s2, s3, hg10]
          exact hK _ _ ⟨h.nx, s1, s2, s3, s8, (by first | (simp only [go_sem, hg10, List.length_append, List.map_append]; done) | rfl), s14, s15, s16, (by first | (simp only [go_sem, hg10, List.length_append, List.map_append]; done) | rfl), (by simp only [go_sem, hg10, List.length_append, List.map_append]), (by simp only [go_sem])⟩
      · rintro t h ⟨i10, s1, s2, s3, s8, s10, s14, s15, s16, s31, ob_o10, lt_o10⟩
        refine cw_seq_k fun K11 hK11 => ?_
        simp only [go_sem, s31]
        refine ibr_intro (fun hc12 => ?_) (fun hc12 => ?_)
        · rw [if_t hc12] at hm1
          simp only [cw_exit, qseq_exit, qblock_same, qblock_ne, qblock_normal, qseq_normal, Nat.reduceEqDiff, not_false_eq_true]
          exact J7 sum_8 _ _ s1 s2 s3 s8 s14 s15 s16 hm1
        · rw [if_f hc12] at hm1
          simp only [cw_skip, qblock_normal, qseq_normal]
          refine hK11 _ _ ?_
          refine cw_reg_seq fun K hK => ?_
          simp only [go_sem, s10, ob_o10, lt_o10]
          refine hK _ _ ?_
          clear hK K
          simp only [cw_block]
          obtain ⟨b13, hl13, hm1⟩ := bind_get hm1
          refine cw_loopM hl13 (fun | (sum_8_1, x_35), t, h => t 1 = I comb ∧ t 2 = I from_ ∧ t 3 = I to_ ∧ t 8 = I sum_8_1 ∧ t 14 = .fs 3 (List.map eTrain h_.Trains) ∧ t 15 = I (List.length h_.Trains : Int) ∧ t 16 = I x_16 ∧ t 33 = .fs 3 (List.map eCrowd x9.Crowds) ∧ t 34 = I (List.length x9.Crowds : Int) ∧ t 35 = I x_35) ?_ ?_
          · exact ⟨s1, s2, s3, s8, s14, s15, s16, (by first | (simp only [go_sem, List.length_append, List.map_append]; done) | rfl), (by first | (simp only [go_sem, List.length_append, List.map_append]; done) | rfl), (by first | (simp only [go_sem, List.length_append, List.map_append]; done) | rfl)⟩
          · try clear s1 s2 s3 s8 s10 s14 s15 s16 s31 ob_o10 lt_o10
            rintro ⟨sum_8_1, x_35⟩ o t h ⟨s1, s2, s3, s8, s14, s15, s16, s33, s34, s35⟩ hm2 hb13
            simp only [halls_brought_L11] at hm2
            rw [x_halls_brought_L11]
            refine cw_reg_seq fun K hK => ?_
            simp only [go_sem, s34, s35]
            refine hK _ _ ?_
            clear hK K
            refine cw_seq_k fun K14 hK14 => ?_
            simp only [go_sem]
            refine ibr_intro (fun hc15 => ?_) (fun hc15 => ?_)
            · rw [if_t hc15] at hm2
              simp only [cw_skip, qblock_normal, qseq_normal]
              refine hK14 _ _ ?_
              refine cw_seq_k fun K16 hK16 => ?_
              have J17 : ∀ (sum_8_2 : Int) (t : Slots) (h : Heap), t 1 = I comb → t 2 = I from_ → t 3 = I to_ → t 8 = I sum_8_2 → t 14 = .fs 3 (List.map eTrain h_.Trains) → t 15 = I (List.length h_.Trains : Int) → t 16 = I x_16 → t 33 = .fs 3 (List.map eCrowd x9.Crowds) → t 34 = I (List.length x9.Crowds : Int) → t 35 = I x_35 → halls_brought_j17 x_35 sum_8_2 = some o → K16 t h := by
                try clear s1 s2 s3 s8 s14 s15 s16 s33 s34 s35
                intro sum_8_2 t h s1 s2 s3 s8 s14 s15 s16 s33 s34 s35 hm2
                refine hK16 _ _ ?_
                unfold halls_brought_j17 at hm2
                refine cw_reg_k fun K hK => ?_
                simp only [go_sem, s35]
                refine hK _ _ ?_
                clear hK K
                simp only [qblock_normal, qseq_normal]
                obtain rfl := Option.some.inj hm2
                refine ⟨_, rfl, ?_⟩
                exact ⟨s1, s2, s3, s8, s14, s15, s16, s33, s34, (by first | (simp only [go_sem, s35, List.length_append, List.map_append]; done) | rfl)⟩
              simp only [cw_block]
              obtain ⟨x19, h_x19, hm2⟩ := bind_get hm2
              have h_x190 := get_nn h_x19
              have h_x191 := get_lt h_x19
              refine cw_reg_seq fun K hK => ?_
              simp only [go_sem, s33, s35, ielem_get h_x19, irow_get h_x19, h_x190, h_x191]
              refine hK _ _ ?_
              clear hK K
              refine cw_reg_seq fun K hK => ?_
              simp only [go_sem, s1]
              refine hK _ _ ?_
              clear hK K
              simp only [go_sem]
              refine ibr_intro (fun hc20 => ?_) (fun hc20 => ?_)
              · rw [if_t hc20] at hm2
                refine cw_reg_k fun K hK => ?_
                simp only [go_sem, s8]
                refine hK _ _ ?_
                clear hK K
                simp only [qblock_normal, qseq_normal]
                exact J17 (wr (sum_8_1 + x19.People.High)) _ _ s1 s2 s3 (by first | (simp only [go_sem, s8, List.length_append, List.map_append]; done) | rfl) s14 s15 s16 s33 s34 s35 hm2
              · rw [if_f hc20] at hm2
                simp only [cw_skip, qblock_normal, qseq_normal]
                exact J17 sum_8_1 _ _ s1 s2 s3 s8 s14 s15 s16 s33 s34 s35 hm2
            · rw [if_f hc15] at hm2
              simp only [cw_exit, qseq_exit, qblock_same, qblock_ne, qblock_normal, qseq_normal, Nat.reduceEqDiff, not_false_eq_true]
              obtain rfl := Option.some.inj hm2
              obtain rfl := hb13 _ rfl
              try dsimp only at hm1
              exact J7 sum_8_1 _ _ s1 s2 s3 s8 s14 s15 s16 hm1
    · rw [if_f hc5] at hm1
      simp only [cw_exit, qseq_exit, qblock_same, qblock_ne, qblock_normal, qseq_normal, Nat.reduceEqDiff, not_false_eq_true]
      obtain rfl := Option.some.inj hm1
      obtain rfl := hb3 _ rfl
      try dsimp only at hm0
      exact J2 sum_8 _ _ s8 hm0

end Go.Nw.HM

namespace Go.Nw.HM
open Go.Nw.Halls
set_option linter.unusedSimpArgs false
set_option linter.unusedVariables false
set_option maxHeartbeats 4000000
variable {O : Orac}

theorem k_halls_check (hf : Has O "newel/halls.check" x_halls_check) (k_halls_Check : C_halls_Check O) (k_slices_ContainsFunc___int_int_ : C_slices_ContainsFunc___int_int_ O) (k_halls_checkD1 : C_halls_checkD1 O) : C_halls_check O := by
  intro h_ comb ticks r hm0
  unfold halls_check at hm0
  refine fn_cw hf rfl (fz_cons (.agg _ (fz_cons (frz_fs fun a _ => fz_eComb a) (fz_cons (frz_fs fun a _ => fz_eTrain a) (fz_cons (frz_fs fun a _ => fz_eShift a) (fz_cons (frz_v _) fz_nil))))) (fz_cons (frz_v _) (fz_cons (frz_fs fun a _ => fz_eI a) fz_nil))) (frz_v _) ?_
  refine cw_start (fun t h => t 0 = .agg [.fs 5 (List.map eComb h_.Combs), .fs 3 (List.map eTrain h_.Trains), .fs 3 (List.map eShift h_.Shifts), I h_.Until] ∧ t 1 = I comb ∧ t 2 = .fs 1 (List.map eI ticks)) ⟨rfl, rfl, rfl⟩ fun t h ⟨s0, s1, s2⟩ => ?_
  simp only [x_halls_check]
  refine cw_reg_seq fun K hK => ?_
  simp only [go_sem, s0]
  refine hK _ _ ?_
  clear hK K
  refine cw_assoc ?_
  obtain ⟨y2, h_y2, hm0⟩ := bind_get hm0
  refine cw_reg_seq fun K hK => ?_
  simp only [go_sem]
  refine icall_fn (k_halls_Check h_ _ h_y2) ?_
  simp only [go_sem]
  refine hK _ _ ?_
  clear hK K
  refine cw_assoc ?_
  refine cw_reg_seq fun K hK => ?_
  simp only [go_sem]
  refine hK _ _ ?_
  clear hK K
  refine cw_seq_k fun K3 hK3 => ?_
  simp only [go_sem]
  refine ibr_intro (fun hc4 => ?_) (fun hc4 => ?_)
  · rw [if_t hc4] at hm0
    refine cw_reg_seq fun K hK => ?_
    simp only [go_sem]
    refine hK _ _ ?_
    clear hK K
    simp only [cw_ret, qseq_ret, qblock_ret, retQ_ret]
    obtain rfl := Option.some.inj hm0
    exact done_t (by simp only [go_sem, List.length_append, List.map_append]) (frz_v _)
  · rw [if_f hc4] at hm0
    simp only [cw_skip, qblock_normal, qseq_normal]
    refine hK3 _ _ ?_
    refine cw_assoc ?_
    obtain ⟨c10, h_c10, hm0⟩ := bind_get hm0
    refine cw_reg_postK (fun t h => t 26 = B c10) (fun K hK => ?_) ?_
    · simp only [go_sem, s1, s2]
      refine ibr_intro (fun hg11 => ?_) (fun hg11 => ?_)
      · simp only [hg11, Bool.not_true, Bool.not_false, eq_self, if_true, if_false, Bool.true_or, Bool.or_true, Bool.false_or, Bool.or_false, Bool.true_and, Bool.and_true, Bool.false_and, Bool.and_false, Bool.false_eq_true] at h_c10
        obtain rfl := Option.some.inj h_c10
        simp only [go_sem, s1, s2, hg11]
        exact hK _ _ (by first | (simp only [go_sem, hg11, List.length_append, List.map_append]; done) | rfl)
      · simp only [go_sem, s1, s2, hg11]
        refine ibr_intro (fun hg12 => ?_) (fun hg12 => ?_)
        · simp only [hg11, hg12, Bool.not_true, Bool.not_false, eq_self, if_true, if_false, Bool.true_or, Bool.or_true, Bool.false_or, Bool.or_false, Bool.true_and, Bool.and_true, Bool.false_and, Bool.and_false, Bool.false_eq_true] at h_c10
          obtain rfl := Option.some.inj h_c10
          simp only [go_sem, s1, s2, hg11, hg12]
          exact hK _ _ (by first | (simp only [go_sem, hg11, hg12, List.length_append, List.map_append]; done) | rfl)
        · simp only [hg11, hg12, Bool.not_true, Bool.not_false, eq_self, if_true, if_false, Bool.true_or, Bool.or_true, Bool.false_or, Bool.or_false, Bool.true_and, Bool.and_true, Bool.false_and, Bool.and_false, Bool.false_eq_true] at h_c10
          obtain ⟨y9, h_y9, h_c10⟩ := bind_get h_c10
          obtain rfl := Option.some.inj h_c10
          simp only [go_sem, s1, s2, hg11, hg12]
          refine icall_fn (k_slices_ContainsFunc___int_int_ ticks "newel/halls.check$1" [] [.fp [.fs 5 (List.map eComb h_.Combs), .fs 3 (List.map eTrain h_.Trains), .fs 3 (List.map eShift h_.Shifts), I h_.Until] 0] (fun z8 => some (halls_checkD1 z8 h_)) (.fn _ _ _ fz_nil (fz_cons (.fp _ _ (fz_cons (frz_fs fun a _ => fz_eComb a) (fz_cons (frz_fs fun a _ => fz_eTrain a) (fz_cons (frz_fs fun a _ => fz_eShift a) (fz_cons (frz_v _) fz_nil))))) fz_nil)) (fun z0 y hz => by cases hz; exact k_halls_checkD1 z0 h_) _ h_y9) ?_
          simp only [go_sem, s1, s2, hg11, hg12]
          exact hK _ _ (by first | (simp only [go_sem, hg11, hg12, List.length_append, List.map_append]; done) | rfl)
    · rintro t h s26
      refine cw_seq_k fun K13 hK13 => ?_
      simp only [go_sem, s26]
      refine ibr_intro (fun hc14 => ?_) (fun hc14 => ?_)
      · rw [if_t hc14] at hm0
        refine cw_reg_seq fun K hK => ?_
        simp only [go_sem]
        refine hK _ _ ?_
        clear hK K
        simp only [cw_ret, qseq_ret, qblock_ret, retQ_ret]
        obtain rfl := Option.some.inj hm0
        exact done_t (by simp only [go_sem, List.length_append, List.map_append]) (frz_v _)
      · rw [if_f hc14] at hm0
        simp only [cw_skip, qblock_normal, qseq_normal]
        refine hK13 _ _ ?_
        refine cw_reg_seq fun K hK => ?_
        simp only [go_sem]
        refine hK _ _ ?_
        clear hK K
        simp only [cw_ret, qseq_ret, qblock_ret, retQ_ret]
        obtain rfl := Option.some.inj hm0
        exact done_t (by simp only [go_sem, List.length_append, List.map_append]) (frz_v _)

end Go.Nw.HM

namespace Go.Nw.HM
open Go.Nw.Halls
set_option linter.unusedSimpArgs false
set_option linter.unusedVariables false
set_option maxHeartbeats 4000000
variable {O : Orac}

theorem k_halls_isComb (hf : Has O "newel/halls.isComb" x_halls_isComb) (k_halls_in : C_halls_in O) (k_halls_span : C_halls_span O) : C_halls_isComb O := by
  intro h_ i r hm0
  unfold halls_isComb at hm0
  refine fn_cw hf rfl (fz_cons (.agg _ (fz_cons (frz_fs fun a _ => fz_eComb a) (fz_cons (frz_fs fun a _ => fz_eTrain a) (fz_cons (frz_fs fun a _ => fz_eShift a) (fz_cons (frz_v _) fz_nil))))) (fz_cons (frz_v _) fz_nil)) (frz_v _) ?_
  refine cw_start (fun t h => t 0 = .agg [.fs 5 (List.map eComb h_.Combs), .fs 3 (List.map eTrain h_.Trains), .fs 3 (List.map eShift h_.Shifts), I h_.Until] ∧ t 1 = I i) ⟨rfl, rfl⟩ fun t h ⟨s0, s1⟩ => ?_
  simp only [x_halls_isComb]
  refine cw_reg_seq fun K hK => ?_
  simp only [go_sem, s0]
  refine hK _ _ ?_
  clear hK K
  obtain ⟨x2, h_x2, hm0⟩ := bind_get hm0
  have h_x20 := get_nn h_x2
  have h_x21 := get_lt h_x2
  refine cw_reg_seq fun K hK => ?_
  simp only [go_sem, s1, ielem_get h_x2, irow_get h_x2, h_x20, h_x21]
  refine hK _ _ ?_
  clear hK K
  refine cw_reg_postK (fun t h => t 4 = B ((((halls_in x2.Rate (Span.mk 0 1000)) && (halls_in x2.Limit (Span.mk 0 100000))) && ((decide (x2.Next = (-1))) || ((decide (i < x2.Next)) && (decide (x2.Next < (List.length h_.Combs : Int)))))) && (halls_span x2.Walk 1 20))) (fun K hK => ?_) ?_
  · simp only [go_sem, s1]
    refine icall_fn (k_halls_in x2.Rate (Span.mk 0 1000)) ?_
    simp only [go_sem, s1]
    refine ibr_intro (fun hg3 => ?_) (fun hg3 => ?_)
    · simp only [go_sem, s1, hg3]
      refine icall_fn (k_halls_in x2.Limit (Span.mk 0 100000)) ?_
      simp only [go_sem, s1, hg3]
      refine ibr_intro (fun hg4 => ?_) (fun hg4 => ?_)
      · simp only [go_sem, s1, hg3, hg4]
        refine ibr_intro (fun hg5 => ?_) (fun hg5 => ?_)
        · simp only [go_sem, s1, hg3, hg4, hg5]
          refine icall_fn (k_halls_span x2.Walk 1 20) ?_
          simp only [go_sem, s1, hg3, hg4, hg5]
          exact hK _ _ (by first | (simp only [go_sem, hg3, hg4, hg5, List.length_append, List.map_append]; done) | rfl)
        · simp only [go_sem, s1, hg3, hg4, hg5]
          refine ibr_intro (fun hg6 => ?_) (fun hg6 => ?_)
          · simp only [go_sem, s1, hg3, hg4, hg5, hg6]
            refine ibr_intro (fun hg7 => ?_) (fun hg7 => ?_)
            · simp only [go_sem, s1, hg3, hg4, hg5, hg6, hg7]
              refine icall_fn (k_halls_span x2.Walk 1 20) ?_
              simp only [go_sem, s1, hg3, hg4, hg5, hg6, hg7]
              exact hK _ _ (by first | (simp only [go_sem, hg3, hg4, hg5, hg6, hg7, List.length_append, List.map_append]; done) | rfl)
            · simp only [go_sem, s1, hg3, hg4, hg5, hg6, hg7]
              exact hK _ _ (by first | (simp only [go_sem, hg3, hg4, hg5, hg6, hg7, List.length_append, List.map_append]; done) | rfl)
          · simp only [go_sem, s1, hg3, hg4, hg5, hg6]
            exact hK _ _ (by first | (simp only [go_sem, hg3, hg4, hg5, hg6, List.length_append, List.map_append]; done) | rfl)
      · simp only [go_sem, s1, hg3, hg4]
        exact hK _ _ (by first | (simp only [go_sem, hg3, hg4, List.length_append, List.map_append]; done) | rfl)
    · simp only [go_sem, s1, hg3]
      exact hK _ _ (by first | (simp only [go_sem, hg3, List.length_append, List.map_append]; done) | rfl)
  · rintro t h s4
    simp only [cw_ret, qseq_ret, qblock_ret, retQ_ret]
    obtain rfl := Option.some.inj hm0
    exact done_t (by simp only [go_sem, s4, List.length_append, List.map_append]) (frz_v _)

end Go.Nw.HM

namespace Go.Nw.HM
open Go.Nw.Halls
set_option linter.unusedSimpArgs false
set_option linter.unusedVariables false
set_option maxHeartbeats 4000000
variable {O : Orac}

theorem k_halls_isTrain (hf : Has O "newel/halls.isTrain" x_halls_isTrain) (k_halls_span : C_halls_span O) : C_halls_isTrain O := by
  intro h_ t_ r hm0
  unfold halls_isTrain at hm0
  refine fn_cw hf rfl (fz_cons (.agg _ (fz_cons (frz_fs fun a _ => fz_eComb a) (fz_cons (frz_fs fun a _ => fz_eTrain a) (fz_cons (frz_fs fun a _ => fz_eShift a) (fz_cons (frz_v _) fz_nil))))) (fz_cons (.agg _ (fz_cons (frz_v _) (fz_cons (frz_v _) (fz_cons (frz_fs fun a _ => fz_eCrowd a) fz_nil)))) fz_nil)) (frz_v _) ?_
  refine cw_start (fun t h => t 0 = .agg [.fs 5 (List.map eComb h_.Combs), .fs 3 (List.map eTrain h_.Trains), .fs 3 (List.map eShift h_.Shifts), I h_.Until] ∧ t 1 = .agg [I t_.At.Low, I t_.At.High, .fs 3 (List.map eCrowd t_.Crowds)]) ⟨rfl, rfl⟩ fun t h ⟨s0, s1⟩ => ?_
  simp only [x_halls_isTrain]
  refine cw_reg_seq fun K hK => ?_
  simp only [go_sem, s0, s1]
  refine hK _ _ ?_
  clear hK K
  refine cw_reg_seq fun K hK => ?_
  simp only [go_sem]
  refine hK _ _ ?_
  clear hK K
  refine cw_assoc ?_
  refine cw_reg_seq fun K hK => ?_
  simp only [go_sem]
  refine hK _ _ ?_
  clear hK K
  refine cw_seq_k fun K1 hK1 => ?_
  have J2 : ∀ (t : Slots) (h : Heap), t 2 = .fp [.fs 5 (List.map eComb h_.Combs), .fs 3 (List.map eTrain h_.Trains), .fs 3 (List.map eShift h_.Shifts), I h_.Until] 0 → t 3 = .fp [I t_.At.Low, I t_.At.High, .fs 3 (List.map eCrowd t_.Crowds)] 0 → halls_isTrain_j2 h_ t_ = some r → K1 t h := by
    intro t h s2 s3 hm0
    refine hK1 _ _ ?_
    unfold halls_isTrain_j2 at hm0
    refine cw_reg_postK (fun t h => t 4 = B ((halls_span t_.At 0 (wr (h_.Until - 1))) && (decide ((List.length t_.Crowds : Int) ≤ 4)))) (fun K hK => ?_) ?_
    · simp only [go_sem, s2, s3]
      refine icall_fn (k_halls_span t_.At 0 (wr (h_.Until - 1))) ?_
      simp only [go_sem, s2, s3]
      refine ibr_intro (fun hg3 => ?_) (fun hg3 => ?_)
      · simp only [go_sem, s2, s3, hg3]
        exact hK _ _ (by first | (simp only [go_sem, hg3, List.length_append, List.map_append]; done) | rfl)
      · simp only [go_sem, s2, s3, hg3]
        exact hK _ _ (by first | (simp only [go_sem, hg3, List.length_append, List.map_append]; done) | rfl)
    · rintro t h s4
      simp only [cw_ret, qseq_ret, qblock_ret, retQ_ret]
      obtain rfl := Option.some.inj hm0
      exact done_t (by simp only [go_sem, s4, List.length_append, List.map_append]) (frz_v _)
  simp only [cw_block]
  obtain ⟨b4, hl4, hm0⟩ := bind_get hm0
  refine cw_loopM hl4 (fun | (last_5, x_11), t, h => t 2 = .fp [.fs 5 (List.map eComb h_.Combs), .fs 3 (List.map eTrain h_.Trains), .fs 3 (List.map eShift h_.Shifts), I h_.Until] 0 ∧ t 3 = .fp [I t_.At.Low, I t_.At.High, .fs 3 (List.map eCrowd t_.Crowds)] 0 ∧ t 5 = I last_5 ∧ t 9 = .fs 3 (List.map eCrowd t_.Crowds) ∧ t 10 = I (List.length t_.Crowds : Int) ∧ t 11 = I x_11) ?_ ?_
  · exact ⟨(by first | (simp only [go_sem, List.length_append, List.map_append]; done) | rfl), (by first | (simp only [go_sem, List.length_append, List.map_append]; done) | rfl), (by first | (simp only [go_sem, List.length_append, List.map_append]; done) | rfl), (by first | (simp only [go_sem, List.length_append, List.map_append]; done) | rfl), (by first | (simp only [go_sem, List.length_append, List.map_append]; done) | rfl), (by first | (simp only [go_sem, List.length_append, List.map_append]; done) | rfl)⟩
  · rintro ⟨last_5, x_11⟩ o t h ⟨s2, s3, s5, s9, s10, s11⟩ hm1 hb4
    simp only [halls_isTrain_L9] at hm1
    rw [x_halls_isTrain_L9]
    refine cw_reg_seq fun K hK => ?_
    simp only [go_sem, s10, s11]
    refine hK _ _ ?_
    clear hK K
    refine cw_seq_k fun K5 hK5 => ?_
    simp only [go_sem]
    refine ibr_intro (fun hc6 => ?_) (fun hc6 => ?_)
    · rw [if_t hc6] at hm1
      simp only [cw_skip, qblock_normal, qseq_normal]
      refine hK5 _ _ ?_
      refine cw_seq_k fun K7 hK7 => ?_
      simp only [cw_block]
      obtain ⟨x9, h_x9, hm1⟩ := bind_get hm1
      have h_x90 := get_nn h_x9
      have h_x91 := get_lt h_x9
      refine cw_reg_seq fun K hK => ?_
      simp only [go_sem, s9, s11, ielem_get h_x9, irow_get h_x9, h_x90, h_x91]
      refine hK _ _ ?_
      clear hK K
      refine cw_assoc ?_
      refine cw_reg_postK (fun t h => ∃ i7 : Nat, t 2 = .fp [.fs 5 (List.map eComb h_.Combs), .fs 3 (List.map eTrain h_.Trains), .fs 3 (List.map eShift h_.Shifts), I h_.Until] 0 ∧ t 3 = .fp [I t_.At.Low, I t_.At.High, .fs 3 (List.map eCrowd t_.Crowds)] 0 ∧ t 7 = .rp i7 0 0 ∧ t 9 = .fs 3 (List.map eCrowd t_.Crowds) ∧ t 10 = I (List.length t_.Crowds : Int) ∧ t 11 = I x_11 ∧ t 32 = B (((decide (x9.Comb ≤ last_5)) || (decide ((List.length h_.Combs : Int) ≤ x9.Comb))) || (!(halls_span x9.People 0 1000))) ∧ h.ob i7 = some (3, [[I x9.Comb, I x9.People.Low, I x9.People.High]]) ∧ i7 < h.nx) (fun K hK => ?_) ?_
      · simp only [go_sem, s2, s5]
        refine ibr_intro (fun hg10 => ?_) (fun hg10 => ?_)
        · simp only [go_sem, s2, s5, hg10]
          exact hK _ _ ⟨h.nx, s2, s3, (by first | (simp only [go_sem, hg10, List.length_append, List.map_append]; done) | rfl), s9, s10, s11, (by first | (simp only [go_sem, hg10, List.length_append, List.map_append]; done) | rfl), (by simp only [go_sem, hg10, List.length_append, List.map_append]), (by simp only [go_sem])⟩
        · simp only [go_sem, s2, s5, hg10]
          refine ibr_intro (fun hg11 => ?_) (fun hg11 => ?_)
          · simp only [go_sem, s2, s5, hg10, hg11]
            exact hK _ _ ⟨h.nx, s2, s3, (by first | (simp only [go_sem, hg10, hg11, List.length_append, List.map_append]; done) | rfl), s9, s10, s11, (by first | (simp only [go_sem, hg10, hg11, List.length_append, List.map_append]; done) | rfl), (by simp only [go_sem, hg10, hg11, List.length_append, List.map_append]), (by simp only [go_sem])⟩
          · simp only [go_sem, s2, s5, hg10, hg11]
            refine icall_fn (k_halls_span x9.People 0 1000) ?_
            simp only [go_sem, s2, s5, hg10, hg11]
            exact hK _ _ ⟨h.nx, s2, s3, (by first | (simp only [go_sem, hg10, hg11, List.length_append, List.map_append]; done) | rfl), s9, s10, s11, (by first | (simp only [go_sem, hg10, hg11, List.length_append, List.map_append]; done) | rfl), (by simp only [go_sem, hg10, hg11, List.length_append, List.map_append]), (by simp only [go_sem])⟩
      · rintro t h ⟨i7, s2, s3, s7, s9, s10, s11, s32, ob_o7, lt_o7⟩
        refine cw_seq_k fun K12 hK12 => ?_
        simp only [go_sem, s32]
        refine ibr_intro (fun hc13 => ?_) (fun hc13 => ?_)
        · rw [if_t hc13] at hm1
          refine cw_reg_seq fun K hK => ?_
          simp only [go_sem, lt_o7]
          refine hK _ _ ?_
          clear hK K
          simp only [cw_ret, qseq_ret, qblock_ret, retQ_ret]
          obtain rfl := Option.some.inj hm1
          obtain rfl := hb4 _ rfl
          try dsimp only at hm0
          obtain rfl := Option.some.inj hm0
          exact done_t (by simp only [go_sem, ob_o7, lt_o7, List.length_append, List.map_append]) (frz_v _)
        · rw [if_f hc13] at hm1
          simp only [cw_skip, qblock_normal, qseq_normal]
          refine hK12 _ _ ?_
          refine cw_reg_k fun K hK => ?_
          simp only [go_sem, s7, ob_o7, lt_o7]
          refine hK _ _ ?_
          clear hK K
          simp only [qblock_normal, qseq_normal]
          refine hK7 _ _ ?_
          refine cw_reg_k fun K hK => ?_
          simp only [go_sem, s11, lt_o7]
          refine hK _ _ ?_
          clear hK K
          simp only [qblock_normal, qseq_normal]
          obtain rfl := Option.some.inj hm1
          refine ⟨_, rfl, ?_⟩
          exact ⟨s2, s3, (by first | (simp only [go_sem, List.length_append, List.map_append]; done) | rfl), s9, s10, (by first | (simp only [go_sem, s11, List.length_append, List.map_append]; done) | rfl)⟩
    · rw [if_f hc6] at hm1
      simp only [cw_exit, qseq_exit, qblock_same, qblock_ne, qblock_normal, qseq_normal, Nat.reduceEqDiff, not_false_eq_true]
      obtain rfl := Option.some.inj hm1
      obtain rfl := hb4 _ rfl
      try dsimp only at hm0
      exact J2  _ _ s2 s3 hm0

end Go.Nw.HM

namespace Go.Nw.HM
open Go.Nw.Halls
set_option linter.unusedSimpArgs false
set_option linter.unusedVariables false
set_option maxHeartbeats 4000000
variable {O : Orac}

theorem k_halls_open (hf : Has O "newel/halls.open" x_halls_open) (k_halls_rates : C_halls_rates O) : C_halls_open O := by
  intro h_ r hm0
  unfold halls_open at hm0
  refine fn_cw hf rfl (fz_cons (.agg _ (fz_cons (frz_fs fun a _ => fz_eComb a) (fz_cons (frz_fs fun a _ => fz_eTrain a) (fz_cons (frz_fs fun a _ => fz_eShift a) (fz_cons (frz_v _) fz_nil))))) fz_nil) (frz_fs fun a _ => fz_eL_I a) ?_
  refine cw_start (fun t h => t 0 = .agg [.fs 5 (List.map eComb h_.Combs), .fs 3 (List.map eTrain h_.Trains), .fs 3 (List.map eShift h_.Shifts), I h_.Until]) rfl fun t h s0 => ?_
  simp only [x_halls_open]
  refine cw_reg_seq fun K hK => ?_
  simp only [go_sem, s0]
  refine hK _ _ ?_
  clear hK K
  refine cw_assoc ?_
  refine cw_reg_seq fun K hK => ?_
  simp only [go_sem]
  refine hK _ _ ?_
  clear hK K
  refine cw_seq_k fun K1 hK1 => ?_
  have J2 : ∀ (out_2 : List (List Int)) (v2 : AV) (t : Slots) (h : Heap), t 2 = v2 → OwnS h v2 1 (List.map eL_I out_2) → halls_open_j2 out_2 = some r → K1 t h := by
    intro out_2 v2 t h s2 ow_o2 hm0
    refine hK1 _ _ ?_
    unfold halls_open_j2 at hm0
    refine cw_reg_seq fun K hK => ?_
    simp only [go_sem, s2, istr_of v2]
    refine hK _ _ ?_
    clear hK K
    simp only [cw_ret, qseq_ret, qblock_ret, retQ_ret]
    obtain rfl := Option.some.inj hm0
    exact done_fz (v := v2) (by simp only [go_sem, s2, own_late ow_o2, List.length_append, List.map_append]) (fz_own (f := eL_I) (l := out_2) (own_later ow_o2 (by intro j hj hl; first | rfl | simp only [go_sem, hl]) (by first | omega | exact Nat.le_refl _ | (simp only [go_sem, nxs] <;> omega))) fz_eL_I ln_eL_I)
  simp only [cw_block]
  obtain ⟨b3, hl3, hm0⟩ := bind_get hm0
  refine cw_loopM hl3 (fun | (out_2, x_7), t, h => ∃ v2 : AV, t 1 = .fp [.fs 5 (List.map eComb h_.Combs), .fs 3 (List.map eTrain h_.Trains), .fs 3 (List.map eShift h_.Shifts), I h_.Until] 0 ∧ t 2 = v2 ∧ t 6 = I (List.length h_.Combs : Int) ∧ t 7 = I x_7 ∧ OwnS h v2 1 (List.map eL_I out_2)) ?_ ?_
  · exact ⟨(.v (.slice none 0 0)), (by first | (simp only [go_sem, List.length_append, List.map_append]; done) | rfl), (by first | (simp only [go_sem, List.length_append, List.map_append]; done) | rfl), (by first | (simp only [go_sem, List.length_append, List.map_append]; done) | rfl), (by first | (simp only [go_sem, List.length_append, List.map_append]; done) | rfl), own_nil'⟩
  · rintro ⟨out_2, x_7⟩ o t h ⟨v2, s1, s2, s6, s7, ow_o2⟩ hm1 hb3
    simp only [halls_open_L6] at hm1
    rw [x_halls_open_L6]
    refine cw_reg_seq fun K hK => ?_
    simp only [go_sem, s6, s7, istr_of v2]
    refine hK _ _ ?_
    clear hK K
    refine cw_seq_k fun K4 hK4 => ?_
    simp only [go_sem]
    refine ibr_intro (fun hc5 => ?_) (fun hc5 => ?_)
    · rw [if_t hc5] at hm1
      simp only [cw_skip, qblock_normal, qseq_normal]
      refine hK4 _ _ ?_
      refine cw_seq_k fun K6 hK6 => ?_
      simp only [cw_block]
      refine cw_reg_seq fun K hK => ?_
      simp only [go_sem, s7, istr_of v2]
      refine hK _ _ ?_
      clear hK K
      obtain ⟨y9, h_y9, hm1⟩ := bind_get hm1
      obtain ⟨l10, h_l10, hm1⟩ := bind_get hm1
      refine cw_reg_seq fun K hK => ?_
      simp only [go_sem, s1, s2, istr_of v2]
      refine icall_ow (e := eI) (l := y9) ?_ (k_halls_rates h_ x_7 _ h_y9) ?_
      · exact .cons (.refl _ (.agg _ (fz_cons (frz_fs fun a _ => fz_eComb a) (fz_cons (frz_fs fun a _ => fz_eTrain a) (fz_cons (frz_fs fun a _ => fz_eShift a) (fz_cons (frz_v _) fz_nil)))))) (.cons (.refl _ (frz_v _)) (.nil))
      simp only [go_sem, s1, s2, istr_of v2]
      refine iapp_raw (f := eL_I) (l := out_2) (a := y9) (raw := [.rs h.nx 0 (List.length y9)]) ?_ ?_ ?_ h_l10 ?_
      · exact (own_later ow_o2 (by intro j hj hl; first | rfl | simp only [go_sem, hl]) (by first | omega | exact Nat.le_refl _ | (simp only [go_sem, nxs] <;> omega)))
      · exact (by simp only [go_sem, own_late ow_o2, List.length_append, List.map_append])
      · exact (by first | exact notid_nil | exact notid_rs (by first | omega | (simp only [nxs] <;> omega)) | assumption | exact own_notid (by assumption) (by first | omega | (simp only [go_sem, nxs] <;> omega)))
      simp only [go_sem, s1, s2, istr_of v2]
      refine hK _ _ ?_
      clear hK K
      refine cw_ghost_skip ?_
      refine cw_ghost_row (id := (nxs (nxs h.nx))) (sz := 1) (f := eL_I) (l := out_2) (a := y9) (raw := [.rs h.nx 0 (List.length y9)]) (fun j => j == h.nx) (by simp only [go_sem, own_late ow_o2, List.length_append, List.map_append]) (by first | (simp; done) | (simp [nxs] <;> omega)) (.cons (fz_rs (f := eI) (l := y9) (id := h.nx) (by rw [only_ob (by simp)]; simp only [go_sem, own_late ow_o2, List.length_append, List.map_append]) (by first | rfl | simp only [go_sem, List.length_append, List.map_append]) fz_eI ln_eI) (.nil)) fz_eL_I ln_eL_I ?_
      rw [← (ap_get h_l10).2]
      simp only [cw_skip, qblock_normal, qseq_normal]
      refine hK6 _ _ ?_
      refine cw_reg_k fun K hK => ?_
      simp only [go_sem, s7, Bool.or_eq_false_iff, beq_eq_false_iff_ne, ne_eq, not_false_eq_true, and_self, istr_of v2]
      refine hK _ _ ?_
      clear hK K
      simp only [qblock_normal, qseq_normal]
      obtain rfl := Option.some.inj hm1
      refine ⟨_, rfl, ?_⟩
      exact ⟨(.rs (nxs (nxs h.nx)) 0 (List.length l10)), s1, (by first | (simp only [go_sem, s2, List.length_append, List.map_append]; done) | rfl), s6, (by first | (simp only [go_sem, s7, List.length_append, List.map_append]; done) | rfl), (own_rs (by simp only [go_sem, Bool.or_eq_false_iff, beq_eq_false_iff_ne, ne_eq, not_false_eq_true, and_self, own_late ow_o2, List.length_append, List.map_append]) (by first | rfl | simp only [go_sem, List.length_append, List.map_append]) (by simp only [go_sem]))⟩
    · rw [if_f hc5] at hm1
      simp only [cw_exit, qseq_exit, qblock_same, qblock_ne, qblock_normal, qseq_normal, Nat.reduceEqDiff, not_false_eq_true]
      obtain rfl := Option.some.inj hm1
      obtain rfl := hb3 _ rfl
      try dsimp only at hm0
      exact J2 out_2 v2 _ _ s2 ow_o2 hm0

end Go.Nw.HM

namespace Go.Nw.HM
open Go.Nw.Halls
set_option linter.unusedSimpArgs false
set_option linter.unusedVariables false
set_option maxHeartbeats 4000000
variable {O : Orac}

theorem k_halls_open_w (hf : Has O "newel/halls.open" x_halls_open) (k_halls_rates : C_halls_rates O) : C_halls_open_w O := by
  intro h_ h0 r hm0
  unfold halls_open at hm0
  refine hasw_cw hf rfl ?_
  refine cw_start (fun t h => t 0 = .agg [.fs 5 (List.map eComb h_.Combs), .fs 3 (List.map eTrain h_.Trains), .fs 3 (List.map eShift h_.Shifts), I h_.Until] ∧ (∀ j, j < h0.nx → h.ob j = h0.ob j) ∧ h0.nx ≤ h.nx) ⟨rfl, fun _ _ => rfl, Nat.le_refl _⟩ fun t h ⟨s0, fr, fx⟩ => ?_
  simp only [x_halls_open]
  refine cw_reg_seq fun K hK => ?_
  simp only [go_sem, s0]
  refine hK _ _ ?_
  clear hK K
  refine cw_assoc ?_
  refine cw_reg_seq fun K hK => ?_
  simp only [go_sem]
  refine hK _ _ ?_
  clear hK K
  refine cw_seq_k fun K1 hK1 => ?_
  have J2 : ∀ (out_2 : List (List Int)) (v2 : AV) (hs2 : List AV) (t : Slots) (h : Heap), t 2 = v2 → RR h v2 hs2 1 eI out_2 → (∀ j, j < h0.nx → h.ob j = h0.ob j) → h0.nx ≤ h.nx → (∀ j, ¬RNot v2 hs2 j → h0.nx ≤ j) → halls_open_j2 out_2 = some r → K1 t h := by
    intro out_2 v2 hs2 t h s2 rr_o2 fr fx ge_o2 hm0
    refine hK1 _ _ ?_
    unfold halls_open_j2 at hm0
    refine cw_reg_seq fun K hK => ?_
    simp only [go_sem, s2, rr_len rr_o2, istr_of v2]
    refine hK _ _ ?_
    clear hK K
    simp only [cw_ret, qseq_ret, qblock_ret, retQ_ret]
    obtain rfl := Option.some.inj hm0
    exact retw_t (Post := fun v h => ∃ hs, RR h v hs 1 eI out_2 ∧ (∀ j, j < h0.nx → h.ob j = h0.ob j) ∧ h0.nx ≤ h.nx ∧ ∀ j, ¬RNot v hs j → h0.nx ≤ j) (v := v2) (by simp only [go_sem, s2, rr_lates rr_o2, List.length_append, List.map_append]) ⟨hs2, rr_o2, fr, fx, ge_o2⟩
  simp only [cw_block]
  obtain ⟨b3, hl3, hm0⟩ := bind_get hm0
  refine cw_loopM hl3 (fun | (out_2, x_7), t, h => ∃ v2 : AV, ∃ hs2 : List AV, t 1 = .fp [.fs 5 (List.map eComb h_.Combs), .fs 3 (List.map eTrain h_.Trains), .fs 3 (List.map eShift h_.Shifts), I h_.Until] 0 ∧ t 2 = v2 ∧ t 6 = I (List.length h_.Combs : Int) ∧ t 7 = I x_7 ∧ RR h v2 hs2 1 eI out_2 ∧ (∀ j, j < h0.nx → h.ob j = h0.ob j) ∧ h0.nx ≤ h.nx ∧ (∀ j, ¬RNot v2 hs2 j → h0.nx ≤ j)) ?_ ?_
  · exact ⟨nilS, [], (by first | (simp only [go_sem, List.length_append, List.map_append]; done) | rfl), (by first | (simp only [go_sem, List.length_append, List.map_append]; done) | rfl), (by first | (simp only [go_sem, List.length_append, List.map_append]; done) | rfl), (by first | (simp only [go_sem, List.length_append, List.map_append]; done) | rfl), rr_nil, fr, fx, (fun _ hj => absurd rnot_nil hj)⟩
  · rintro ⟨out_2, x_7⟩ o t h ⟨v2, hs2, s1, s2, s6, s7, rr_o2, fr, fx, ge_o2⟩ hm1 hb3
    simp only [halls_open_L6] at hm1
    rw [x_halls_open_L6]
    refine cw_reg_seq fun K hK => ?_
    simp only [go_sem, s6, s7, istr_of v2]
    refine hK _ _ ?_
    clear hK K
    refine cw_seq_k fun K4 hK4 => ?_
    simp only [go_sem]
    refine ibr_intro (fun hc5 => ?_) (fun hc5 => ?_)
    · rw [if_t hc5] at hm1
      simp only [cw_skip, qblock_normal, qseq_normal]
      refine hK4 _ _ ?_
      refine cw_seq_k fun K6 hK6 => ?_
      simp only [cw_block]
      refine cw_reg_seq fun K hK => ?_
      simp only [go_sem, s7, istr_of v2]
      refine hK _ _ ?_
      clear hK K
      obtain ⟨y9, h_y9, hm1⟩ := bind_get hm1
      obtain ⟨l10, h_l10, hm1⟩ := bind_get hm1
      refine cw_reg_postK (fun t h => ∃ v2_1 : AV, ∃ hs2_1 : List AV, t 1 = .fp [.fs 5 (List.map eComb h_.Combs), .fs 3 (List.map eTrain h_.Trains), .fs 3 (List.map eShift h_.Shifts), I h_.Until] 0 ∧ t 2 = v2_1 ∧ t 6 = I (List.length h_.Combs : Int) ∧ t 7 = I x_7 ∧ RR h v2_1 hs2_1 1 eI l10 ∧ (∀ j, j < h0.nx → h.ob j = h0.ob j) ∧ h0.nx ≤ h.nx ∧ (∀ j, ¬RNot v2_1 hs2_1 j → h0.nx ≤ j)) (fun K hK => ?_) ?_
      · simp only [go_sem, s1, s2, rr_len rr_o2, istr_of v2]
        refine icall_ow (e := eI) (l := y9) ?_ (k_halls_rates h_ x_7 _ h_y9) ?_
        · exact .cons (.refl _ (.agg _ (fz_cons (frz_fs fun a _ => fz_eComb a) (fz_cons (frz_fs fun a _ => fz_eTrain a) (fz_cons (frz_fs fun a _ => fz_eShift a) (fz_cons (frz_v _) fz_nil)))))) (.cons (.refl _ (frz_v _)) (.nil))
        simp only [go_sem, s1, s2, rr_len rr_o2, istr_of v2]
        refine iapp_rr (f := eI) (sz := 1) (rows := out_2) (hs := hs2) (u := .rs h.nx 0 (List.length y9)) ?_ ?_ ?_ h_l10 ?_
        · exact (rr_later rr_o2 (by intro j hj  hl; first | rfl | simp only [go_sem, hl]) (by first | omega | exact Nat.le_refl _ | (simp only [go_sem, nxs] <;> omega)))
        · exact (by simp only [go_sem, rr_lates rr_o2, List.length_append, List.map_append])
        · exact (rr_late rr_o2 (by first | assumption | omega | (simp only [nxs] <;> omega)))
        simp only [go_sem, s1, s2, rr_len rr_o2, istr_of v2]
        exact hK _ _ ⟨(.rs (nxs (nxs h.nx)) 0 (List.length l10)), (hs2 ++ [.rs h.nx 0 (List.length y9)]), s1, (by first | (simp only [go_sem, s2, List.length_append, List.map_append]; done) | rfl), s6, s7, (rr_app (h := h) rr_o2 h_l10 (by simp only [go_sem, rr_lates rr_o2, List.length_append, List.map_append]) rfl (by simp only [go_sem]) (own_rs (by simp only [go_sem, rr_lates rr_o2, List.length_append, List.map_append]) (by simp only [go_sem, rr_lates rr_o2, List.length_append, List.map_append]) (by simp only [go_sem])) (dr_rs (by first | assumption | exact rr_late rr_o2 (by first | omega | (simp only [nxs] <;> omega)))) (by first | omega | exact Nat.le_refl _ | (simp only [go_sem, nxs] <;> omega)) (by first | exact notid_nil | exact notid_rs (by first | assumption | omega | (simp only [nxs] <;> omega))) (by intro j hj h2 hl; first | rfl | simp only [go_sem, h2, hl]) (by first | omega | exact Nat.le_refl _ | (simp only [go_sem, nxs] <;> omega))), (by intro j hj; first | exact fr j hj | (refine Eq.trans ?_ (fr j hj); first | rfl | simp only [go_sem, Nat.lt_of_lt_of_le hj fx, rn_top (ge_rn ge_o2 hj)])), (by first | exact fx | omega | (simp only [go_sem, nxs] <;> omega)), (ge_app ge_o2 (by first | assumption | omega | (simp only [nxs] <;> omega)) (ge_rs (by first | assumption | omega | (simp only [nxs] <;> omega))))⟩
      · rintro t h ⟨v2_1, hs2_1, s1, s2, s6, s7, rr_o2, fr, fx, ge_o2⟩
        refine cw_ghost_skip ?_
        refine cw_ghost_none ?_
        simp only [cw_skip, qblock_normal, qseq_normal]
        refine hK6 _ _ ?_
        refine cw_reg_k fun K hK => ?_
        simp only [go_sem, s7, istr_of v2, istr_of v2_1]
        refine hK _ _ ?_
        clear hK K
        simp only [qblock_normal, qseq_normal]
        obtain rfl := Option.some.inj hm1
        refine ⟨_, rfl, ?_⟩
        exact ⟨v2_1, hs2_1, s1, s2, s6, (by first | (simp only [go_sem, s7, List.length_append, List.map_append]; done) | rfl), (rr_later rr_o2 (by intro j hj  hl; first | rfl | simp only [go_sem, hl]) (by first | omega | exact Nat.le_refl _ | (simp only [go_sem, nxs] <;> omega))), (by intro j hj; first | exact fr j hj | (refine Eq.trans ?_ (fr j hj); first | rfl | simp only [go_sem, Nat.lt_of_lt_of_le hj fx])), (by first | exact fx | omega | (simp only [go_sem, nxs] <;> omega)), ge_o2⟩
    · rw [if_f hc5] at hm1
      simp only [cw_exit, qseq_exit, qblock_same, qblock_ne, qblock_normal, qseq_normal, Nat.reduceEqDiff, not_false_eq_true]
      obtain rfl := Option.some.inj hm1
      obtain rfl := hb3 _ rfl
      try dsimp only at hm0
      exact J2 out_2 v2 hs2 _ _ s2 rr_o2 fr fx ge_o2 hm0

end Go.Nw.HM

namespace Go.Nw.HM
open Go.Nw.Halls
set_option linter.unusedSimpArgs false
set_option linter.unusedVariables false
set_option maxHeartbeats 4000000
variable {O : Orac}

theorem k_halls_over (hf : Has O "newel/halls.over" x_halls_over) (k_slices_IndexFunc___int_int_ : C_slices_IndexFunc___int_int_ O) (k_halls_overD1 : C_halls_overD1 O) : C_halls_over O := by
  intro h_ all r hm0
  unfold halls_over at hm0
  refine fn_cw hf rfl (fz_cons (.agg _ (fz_cons (frz_fs fun a _ => fz_eComb a) (fz_cons (frz_fs fun a _ => fz_eTrain a) (fz_cons (frz_fs fun a _ => fz_eShift a) (fz_cons (frz_v _) fz_nil))))) (fz_cons (frz_fs fun a _ => fz_eP_halls_bound a) fz_nil)) (frz_fs fun a _ => fz_eA2_I a) ?_
  refine cw_start (fun t h => t 0 = .agg [.fs 5 (List.map eComb h_.Combs), .fs 3 (List.map eTrain h_.Trains), .fs 3 (List.map eShift h_.Shifts), I h_.Until] ∧ t 1 = .fs 1 (List.map eP_halls_bound all)) ⟨rfl, rfl⟩ fun t h ⟨s0, s1⟩ => ?_
  simp only [x_halls_over]
  refine cw_reg_seq fun K hK => ?_
  simp only [go_sem, s0]
  refine hK _ _ ?_
  clear hK K
  refine cw_assoc ?_
  refine cw_reg_seq fun K hK => ?_
  simp only [go_sem, s1]
  refine hK _ _ ?_
  clear hK K
  refine cw_seq_k fun K1 hK1 => ?_
  have J2 : ∀ (out_4 : List (Int × Int)) (v4 : AV) (t : Slots) (h : Heap), t 4 = v4 → OwnS h v4 2 (List.map eA2_I out_4) → halls_over_j2 out_4 = some r → K1 t h := by
    intro out_4 v4 t h s4 ow_o4 hm0
    refine hK1 _ _ ?_
    unfold halls_over_j2 at hm0
    refine cw_reg_seq fun K hK => ?_
    simp only [go_sem, s4, istr_of v4]
    refine hK _ _ ?_
    clear hK K
    simp only [cw_ret, qseq_ret, qblock_ret, retQ_ret]
    obtain rfl := Option.some.inj hm0
    exact done_fz (v := v4) (by simp only [go_sem, s4, own_late ow_o4, List.length_append, List.map_append]) (fz_own (f := eA2_I) (l := out_4) (own_later ow_o4 (by intro j hj hl; first | rfl | simp only [go_sem, hl]) (by first | omega | exact Nat.le_refl _ | (simp only [go_sem, nxs] <;> omega))) fz_eA2_I ln_eA2_I)
  simp only [cw_block]
  obtain ⟨b3, hl3, hm0⟩ := bind_get hm0
  refine cw_loopM hl3 (fun | (out_4, x_10), t, h => ∃ v4 : AV, t 2 = .fp [.fs 5 (List.map eComb h_.Combs), .fs 3 (List.map eTrain h_.Trains), .fs 3 (List.map eShift h_.Shifts), I h_.Until] 0 ∧ t 4 = v4 ∧ t 8 = .fs 1 (List.map eP_halls_bound all) ∧ t 9 = I (List.length all : Int) ∧ t 10 = I x_10 ∧ OwnS h v4 2 (List.map eA2_I out_4)) ?_ ?_
  · exact ⟨(.v (.slice none 0 0)), (by first | (simp only [go_sem, List.length_append, List.map_append]; done) | rfl), (by first | (simp only [go_sem, List.length_append, List.map_append]; done) | rfl), (by first | (simp only [go_sem, List.length_append, List.map_append]; done) | rfl), (by first | (simp only [go_sem, List.length_append, List.map_append]; done) | rfl), (by first | (simp only [go_sem, List.length_append, List.map_append]; done) | rfl), own_nil'⟩
  · rintro ⟨out_4, x_10⟩ o t h ⟨v4, s2, s4, s8, s9, s10, ow_o4⟩ hm1 hb3
    simp only [halls_over_L8] at hm1
    rw [x_halls_over_L8]
    refine cw_reg_seq fun K hK => ?_
    simp only [go_sem, s9, s10, istr_of v4]
    refine hK _ _ ?_
    clear hK K
    refine cw_seq_k fun K4 hK4 => ?_
    simp only [go_sem]
    refine ibr_intro (fun hc5 => ?_) (fun hc5 => ?_)
    · rw [if_t hc5] at hm1
      simp only [cw_skip, qblock_normal, qseq_normal]
      refine hK4 _ _ ?_
      refine cw_seq_k fun K6 hK6 => ?_
      have J7 : ∀ (out_4_1 : List (Int × Int)) (v4_1 : AV) (t : Slots) (h : Heap), t 2 = .fp [.fs 5 (List.map eComb h_.Combs), .fs 3 (List.map eTrain h_.Trains), .fs 3 (List.map eShift h_.Shifts), I h_.Until] 0 → t 4 = v4_1 → t 8 = .fs 1 (List.map eP_halls_bound all) → t 9 = I (List.length all : Int) → t 10 = I x_10 → OwnS h v4_1 2 (List.map eA2_I out_4_1) → halls_over_j7 x_10 out_4_1 = some o → K6 t h := by
        intro out_4_1 v4_1 t h s2 s4 s8 s9 s10 ow_o4 hm1
        refine hK6 _ _ ?_
        unfold halls_over_j7 at hm1
        refine cw_reg_k fun K hK => ?_
        simp only [go_sem, s10, istr_of v4, istr_of v4_1]
        refine hK _ _ ?_
        clear hK K
        simp only [qblock_normal, qseq_normal]
        obtain rfl := Option.some.inj hm1
        refine ⟨_, rfl, ?_⟩
        exact ⟨v4_1, s2, s4, s8, s9, (by first | (simp only [go_sem, s10, List.length_append, List.map_append]; done) | rfl), ow_o4⟩
      simp only [cw_block]
      obtain ⟨x9, h_x9, hm1⟩ := bind_get hm1
      have h_x90 := get_nn h_x9
      have h_x91 := get_lt h_x9
      refine cw_reg_seq fun K hK => ?_
      simp only [go_sem, s8, s10, ielem_get h_x9, irow_get h_x9, h_x90, h_x91, istr_of v4]
      refine hK _ _ ?_
      clear hK K
      obtain ⟨y13, h_y13, hm1⟩ := bind_get hm1
      refine cw_reg_seq fun K hK => ?_
      simp only [go_sem, s2, istr_of v4]
      refine icall_fz ?_ (k_slices_IndexFunc___int_int_ x9.most "newel/halls.over$1" [] [.fp [.fs 5 (List.map eComb h_.Combs), .fs 3 (List.map eTrain h_.Trains), .fs 3 (List.map eShift h_.Shifts), I h_.Until] 0, .fp [I x_10] 0] (fun z12 => halls_overD1 z12 h_ x_10) (.fn _ _ _ fz_nil (fz_cons (.fp _ _ (fz_cons (frz_fs fun a _ => fz_eComb a) (fz_cons (frz_fs fun a _ => fz_eTrain a) (fz_cons (frz_fs fun a _ => fz_eShift a) (fz_cons (frz_v _) fz_nil))))) (fz_cons (.fp _ _ (fz_cons (frz_v _) fz_nil)) fz_nil))) (fun z0 y hz => k_halls_overD1 z0 h_ x_10 y hz) _ h_y13) (.v _) ?_
      · exact .cons (.refl _ (frz_fs fun a _ => fz_eI a)) (.cons (fz_fn (.nil) (.cons (.refl _ (.fp _ _ (fz_cons (frz_fs fun a _ => fz_eComb a) (fz_cons (frz_fs fun a _ => fz_eTrain a) (fz_cons (frz_fs fun a _ => fz_eShift a) (fz_cons (frz_v _) fz_nil)))))) (.cons (fz_rp (id := h.nx) (sz := 1) (xs := [I x_10]) (by simp only [go_sem, own_late ow_o4]) (.cons (.refl _ (frz_v _)) (.nil))) (.nil)))) (.nil))
      simp only [go_sem, s2, istr_of v4]
      refine hK _ _ ?_
      clear hK K
      refine cw_reg_seq fun K hK => ?_
      simp only [go_sem, istr_of v4]
      refine hK _ _ ?_
      clear hK K
      simp only [go_sem]
      refine ibr_intro (fun hc14 => ?_) (fun hc14 => ?_)
      · rw [if_t hc14] at hm1
        obtain ⟨l16, h_l16, hm1⟩ := bind_get hm1
        refine cw_reg_k fun K hK => ?_
        simp only [go_sem, s4, istr_of v4]
        refine iapp_own (f := eA2_I) (l := out_4) (m := ([(x_10, y13)])) ?_ ?_ ?_ ?_ h_l16 ?_
        · exact (own_later ow_o4 (by intro j hj hl; first | rfl | simp only [go_sem, hl]) (by first | omega | exact Nat.le_refl _ | (simp only [go_sem, nxs] <;> omega)))
        · exact (ownx_rs (by simp only [go_sem, own_late ow_o4, List.length_append, List.map_append]) (by simp only [go_sem, own_late ow_o4, List.length_append, List.map_append]))
        · exact (nd_rs (by first | exact notid_nil | exact notid_rs (by first | omega | (simp only [nxs] <;> omega)) | assumption | exact own_notid (by assumption) (by first | omega | (simp only [go_sem, nxs] <;> omega))))
        · exact (fun _ => by simp)
        simp only [go_sem, s4, istr_of v4]
        refine hK _ _ ?_
        clear hK K
        simp only [qblock_normal, qseq_normal]
        exact J7 l16 (.rs (nxs (nxs h.nx)) 0 (List.length l16)) _ _ s2 (by first | (simp only [go_sem, s4, List.length_append, List.map_append]; done) | rfl) s8 s9 s10 (own_rs (by simp only [go_sem, own_late ow_o4, List.length_append, List.map_append]) (by first | rfl | simp only [go_sem, List.length_append, List.map_append]) (by simp only [go_sem])) hm1
      · rw [if_f hc14] at hm1
        simp only [cw_skip, qblock_normal, qseq_normal]
        exact J7 out_4 v4 _ _ s2 s4 s8 s9 s10 (own_later ow_o4 (by intro j hj hl; first | rfl | simp only [go_sem, hl]) (by first | omega | exact Nat.le_refl _ | (simp only [go_sem, nxs] <;> omega))) hm1
    · rw [if_f hc5] at hm1
      simp only [cw_exit, qseq_exit, qblock_same, qblock_ne, qblock_normal, qseq_normal, Nat.reduceEqDiff, not_false_eq_true]
      obtain rfl := Option.some.inj hm1
      obtain rfl := hb3 _ rfl
      try dsimp only at hm0
      exact J2 out_4 v4 _ _ s4 ow_o4 hm0

end Go.Nw.HM

namespace Go.Nw.HM
open Go.Nw.Halls
set_option linter.unusedSimpArgs false
set_option linter.unusedVariables false
set_option maxHeartbeats 4000000
variable {O : Orac}

theorem k_halls_rates (hf : Has O "newel/halls.rates" x_halls_rates) : C_halls_rates O := by
  intro h_ comb r hm0
  unfold halls_rates at hm0
  refine fnw_cw hf rfl (fz_cons (.agg _ (fz_cons (frz_fs fun a _ => fz_eComb a) (fz_cons (frz_fs fun a _ => fz_eTrain a) (fz_cons (frz_fs fun a _ => fz_eShift a) (fz_cons (frz_v _) fz_nil))))) (fz_cons (frz_v _) fz_nil)) (by first | exact plain_eI | exact plain_eB) ?_
  refine cw_start (fun t h => t 0 = .agg [.fs 5 (List.map eComb h_.Combs), .fs 3 (List.map eTrain h_.Trains), .fs 3 (List.map eShift h_.Shifts), I h_.Until] ∧ t 1 = I comb) ⟨rfl, rfl⟩ fun t h ⟨s0, s1⟩ => ?_
  simp only [x_halls_rates]
  refine cw_reg_seq fun K hK => ?_
  simp only [go_sem, s0]
  refine hK _ _ ?_
  clear hK K
  obtain ⟨l2, h_l2, hm0⟩ := bind_get hm0
  refine cw_reg_seq fun K hK => ?_
  simp only [go_sem]
  refine imksl_ok (f := eI) (z := 0) rfl h_l2 ?_
  simp only [go_sem]
  refine hK _ _ ?_
  clear hK K
  obtain ⟨x4, h_x4, hm0⟩ := bind_get hm0
  have h_x40 := get_nn h_x4
  have h_x41 := get_lt h_x4
  refine cw_reg_seq fun K hK => ?_
  simp only [go_sem, s1, ielem_get h_x4, irow_get h_x4, h_x40, h_x41]
  refine hK _ _ ?_
  clear hK K
  refine cw_assoc ?_
  refine cw_reg_seq fun K hK => ?_
  simp only [go_sem]
  refine hK _ _ ?_
  clear hK K
  refine cw_seq_k fun K5 hK5 => ?_
  have J6 : ∀ (out_5 : List Int) (i5 : Nat) (t : Slots) (h : Heap), t 5 = .rs i5 0 (List.length out_5) → h.ob i5 = some (1, List.map eI out_5) → i5 < h.nx → halls_rates_j6 out_5 = some r → K5 t h := by
    intro out_5 i5 t h s5 ob_o5 lt_o5 hm0
    refine hK5 _ _ ?_
    unfold halls_rates_j6 at hm0
    refine cw_reg_seq fun K hK => ?_
    simp only [go_sem, s5, ob_o5, lt_o5]
    refine hK _ _ ?_
    clear hK K
    simp only [cw_ret, qseq_ret, qblock_ret, retQ_ret]
    obtain rfl := Option.some.inj hm0
    exact done_w (id := i5) (by simp only [go_sem, List.length_append, List.map_append]) (by simp only [go_sem, ob_o5, lt_o5, List.length_append, List.map_append]) (by first | exact plain_eI | exact plain_eB)
  simp only [cw_block]
  obtain ⟨b7, hl7, hm0⟩ := bind_get hm0
  refine cw_loopM hl7 (fun | (out_5, now_6, at_7, x_20), t, h => ∃ i5 : Nat, t 1 = I comb ∧ t 2 = .fp [.fs 5 (List.map eComb h_.Combs), .fs 3 (List.map eTrain h_.Trains), .fs 3 (List.map eShift h_.Shifts), I h_.Until] 0 ∧ t 5 = .rs i5 0 (List.length out_5) ∧ t 6 = I now_6 ∧ t 7 = I at_7 ∧ t 19 = I ((List.length l2 : Nat) : Int) ∧ t 20 = I x_20 ∧ h.ob i5 = some (1, List.map eI out_5) ∧ i5 < h.nx) ?_ ?_
  · exact ⟨h.nx, s1, (by first | (simp only [go_sem, List.length_append, List.map_append]; done) | rfl), (by first | (simp only [go_sem, List.length_append, List.map_append]; done) | rfl), (by first | (simp only [go_sem, List.length_append, List.map_append]; done) | rfl), (by first | (simp only [go_sem, List.length_append, List.map_append]; done) | rfl), (by first | (simp only [go_sem, List.length_append, List.map_append]; done) | rfl), (by first | (simp only [go_sem, List.length_append, List.map_append]; done) | rfl), (by simp only [go_sem, List.length_append, List.map_append]), (by simp only [go_sem])⟩
  · rintro ⟨out_5, now_6, at_7, x_20⟩ o t h ⟨i5, s1, s2, s5, s6, s7, s19, s20, ob_o5, lt_o5⟩ hm1 hb7
    simp only [halls_rates_L13] at hm1
    rw [x_halls_rates_L13]
    refine cw_reg_seq fun K hK => ?_
    simp only [go_sem, s19, s20, lt_o5]
    refine hK _ _ ?_
    clear hK K
    refine cw_seq_k fun K8 hK8 => ?_
    simp only [go_sem]
    refine ibr_intro (fun hc9 => ?_) (fun hc9 => ?_)
    · rw [if_t hc9] at hm1
      simp only [cw_skip, qblock_normal, qseq_normal]
      refine hK8 _ _ ?_
      refine cw_seq_k fun K10 hK10 => ?_
      have J11 : ∀ (out_5_1 : List Int) (now_6_1 : Int) (at_7_1 : Int) (t : Slots) (h : Heap), t 1 = I comb → t 2 = .fp [.fs 5 (List.map eComb h_.Combs), .fs 3 (List.map eTrain h_.Trains), .fs 3 (List.map eShift h_.Shifts), I h_.Until] 0 → t 5 = .rs i5 0 (List.length out_5_1) → t 6 = I now_6_1 → t 7 = I at_7_1 → t 19 = I ((List.length l2 : Nat) : Int) → t 20 = I x_20 → h.ob i5 = some (1, List.map eI out_5_1) → i5 < h.nx → halls_rates_j11 x_20 out_5_1 now_6_1 at_7_1 = some o → K10 t h := by
        try clear s1 s2 s5 s6 s7 s19 s20 ob_o5 lt_o5
        intro out_5_1 now_6_1 at_7_1 t h s1 s2 s5 s6 s7 s19 s20 ob_o5 lt_o5 hm1
        refine hK10 _ _ ?_
        unfold halls_rates_j11 at hm1
        refine cw_reg_k fun K hK => ?_
        simp only [go_sem, s20, lt_o5]
        refine hK _ _ ?_
        clear hK K
        simp only [qblock_normal, qseq_normal]
        obtain rfl := Option.some.inj hm1
        refine ⟨_, rfl, ?_⟩
        exact ⟨i5, s1, s2, (by first | exact s5 | simp only [go_sem, s5, List.length_append, List.map_append]), s6, s7, s19, (by first | (simp only [go_sem, s20, List.length_append, List.map_append]; done) | rfl), ob_o5, lt_o5⟩
      simp only [cw_block]
      refine cw_reg_seq fun K hK => ?_
      simp only [go_sem, s20, lt_o5]
      refine hK _ _ ?_
      clear hK K
      refine cw_seq_k fun K12 hK12 => ?_
      have J13 : ∀ (now_6_1 : Int) (at_7_1 : Int) (t : Slots) (h : Heap), t 1 = I comb → t 2 = .fp [.fs 5 (List.map eComb h_.Combs), .fs 3 (List.map eTrain h_.Trains), .fs 3 (List.map eShift h_.Shifts), I h_.Until] 0 → t 5 = .rs i5 0 (List.length out_5) → t 6 = I now_6_1 → t 7 = I at_7_1 → t 8 = I x_20 → t 19 = I ((List.length l2 : Nat) : Int) → t 20 = I x_20 → h.ob i5 = some (1, List.map eI out_5) → i5 < h.nx → halls_rates_j13 out_5 x_20 now_6_1 at_7_1 = some o → K12 t h := by
        try clear s1 s2 s5 s6 s7 s19 s20 ob_o5 lt_o5
        intro now_6_1 at_7_1 t h s1 s2 s5 s6 s7 s8 s19 s20 ob_o5 lt_o5 hm1
        refine hK12 _ _ ?_
        unfold halls_rates_j13 at hm1
        obtain ⟨x15, h_x15, hm1⟩ := bind_get hm1
        have h_x150 := get_nn h_x15
        have h_x151 := get_lt h_x15
        refine cw_reg_k fun K hK => ?_
        simp only [go_sem, s5, s6, s8, ob_o5, lt_o5, ielem_get h_x15, irow_get h_x15, h_x150, h_x151]
        refine hK _ _ ?_
        clear hK K
        simp only [qblock_normal, qseq_normal]
        exact J11 (List.set out_5 (Int.toNat x_20) now_6_1) now_6_1 at_7_1 _ _ s1 s2 (by first | exact s5 | simp only [go_sem, s5, List.length_append, List.map_append]) s6 s7 s19 s20 (by simp only [go_sem, ob_o5, lt_o5, List.length_append, List.map_append]) (by simp only [go_sem, lt_o5]) hm1
      simp only [cw_block]
      obtain ⟨b16, hl16, hm1⟩ := bind_get hm1
      refine cw_loopM hl16 (fun | (now_6_1, at_7_1), t, h => t 1 = I comb ∧ t 2 = .fp [.fs 5 (List.map eComb h_.Combs), .fs 3 (List.map eTrain h_.Trains), .fs 3 (List.map eShift h_.Shifts), I h_.Until] 0 ∧ t 5 = .rs i5 0 (List.length out_5) ∧ t 6 = I now_6_1 ∧ t 7 = I at_7_1 ∧ t 8 = I x_20 ∧ t 19 = I ((List.length l2 : Nat) : Int) ∧ t 20 = I x_20 ∧ h.ob i5 = some (1, List.map eI out_5) ∧ i5 < h.nx) ?_ ?_
      · exact ⟨s1, s2, (by first | exact s5 | simp only [go_sem, s5, List.length_append, List.map_append]), s6, s7, (by first | (simp only [go_sem, List.length_append, List.map_append]; done) | rfl), s19, s20, ob_o5, lt_o5⟩
      · try clear s1 s2 s5 s6 s7 s19 s20 ob_o5 lt_o5
        rintro ⟨now_6_1, at_7_1⟩ o t h ⟨s1, s2, s5, s6, s7, s8, s19, s20, ob_o5, lt_o5⟩ hm2 hb16
        simp only [halls_rates_L10] at hm2
        rw [x_halls_rates_L10]
        refine cw_assoc ?_
        obtain ⟨c20, h_c20, hm2⟩ := bind_get hm2
        refine cw_reg_postK (fun t h => t 1 = I comb ∧ t 2 = .fp [.fs 5 (List.map eComb h_.Combs), .fs 3 (List.map eTrain h_.Trains), .fs 3 (List.map eShift h_.Shifts), I h_.Until] 0 ∧ t 5 = .rs i5 0 (List.length out_5) ∧ t 6 = I now_6_1 ∧ t 7 = I at_7_1 ∧ t 8 = I x_20 ∧ t 19 = I ((List.length l2 : Nat) : Int) ∧ t 20 = I x_20 ∧ t 37 = B c20 ∧ h.ob i5 = some (1, List.map eI out_5) ∧ i5 < h.nx) (fun K hK => ?_) ?_
        · simp only [go_sem, s2, s7, s8, lt_o5]
          refine ibr_intro (fun hg21 => ?_) (fun hg21 => ?_)
          · simp only [hg21, Bool.not_true, Bool.not_false, eq_self, if_true, if_false, Bool.true_or, Bool.or_true, Bool.false_or, Bool.or_false, Bool.true_and, Bool.and_true, Bool.false_and, Bool.and_false, Bool.false_eq_true] at h_c20
            obtain ⟨x19, h_x19, h_c20⟩ := bind_get h_c20
            have h_x190 := get_nn h_x19
            have h_x191 := get_lt h_x19
            obtain rfl := Option.some.inj h_c20
            simp only [go_sem, s2, s7, s8, lt_o5, ielem_get h_x19, irow_get h_x19, h_x190, h_x191, hg21]
            exact hK _ _ ⟨s1, s2, (by first | exact s5 | simp only [go_sem, s5, List.length_append, List.map_append]), s6, s7, s8, s19, s20, (by first | (simp only [go_sem, hg21, List.length_append, List.map_append]; done) | rfl), ob_o5, lt_o5⟩
          · simp only [hg21, Bool.not_true, Bool.not_false, eq_self, if_true, if_false, Bool.true_or, Bool.or_true, Bool.false_or, Bool.or_false, Bool.true_and, Bool.and_true, Bool.false_and, Bool.and_false, Bool.false_eq_true] at h_c20
            obtain rfl := Option.some.inj h_c20
            simp only [go_sem, s2, s7, s8, lt_o5, hg21]
            exact hK _ _ ⟨s1, s2, (by first | exact s5 | simp only [go_sem, s5, List.length_append, List.map_append]), s6, s7, s8, s19, s20, (by first | (simp only [go_sem, hg21, List.length_append, List.map_append]; done) | rfl), ob_o5, lt_o5⟩
        · try clear s1 s2 s5 s6 s7 s8 s19 s20 ob_o5 lt_o5
          rintro t h ⟨s1, s2, s5, s6, s7, s8, s19, s20, s37, ob_o5, lt_o5⟩
          refine cw_seq_k fun K22 hK22 => ?_
          simp only [go_sem, s37]
          refine ibr_intro (fun hc23 => ?_) (fun hc23 => ?_)
          · rw [if_t hc23] at hm2
            simp only [cw_skip, qblock_normal, qseq_normal]
            refine hK22 _ _ ?_
            refine cw_seq_k fun K24 hK24 => ?_
            have J25 : ∀ (now_6_2 : Int) (t : Slots) (h : Heap), t 1 = I comb → t 2 = .fp [.fs 5 (List.map eComb h_.Combs), .fs 3 (List.map eTrain h_.Trains), .fs 3 (List.map eShift h_.Shifts), I h_.Until] 0 → t 5 = .rs i5 0 (List.length out_5) → t 6 = I now_6_2 → t 7 = I at_7_1 → t 8 = I x_20 → t 19 = I ((List.length l2 : Nat) : Int) → t 20 = I x_20 → h.ob i5 = some (1, List.map eI out_5) → i5 < h.nx → halls_rates_j25 at_7_1 now_6_2 = some o → K24 t h := by
              try clear s1 s2 s5 s6 s7 s8 s19 s20 s37 ob_o5 lt_o5
              intro now_6_2 t h s1 s2 s5 s6 s7 s8 s19 s20 ob_o5 lt_o5 hm2
              refine hK24 _ _ ?_
              unfold halls_rates_j25 at hm2
              refine cw_reg_k fun K hK => ?_
              simp only [go_sem, s7, lt_o5]
              refine hK _ _ ?_
              clear hK K
              simp only [qblock_normal, qseq_normal]
              obtain rfl := Option.some.inj hm2
              refine ⟨_, rfl, ?_⟩
              exact ⟨s1, s2, (by first | exact s5 | simp only [go_sem, s5, List.length_append, List.map_append]), s6, (by first | (simp only [go_sem, s7, List.length_append, List.map_append]; done) | rfl), s8, s19, s20, ob_o5, lt_o5⟩
            simp only [cw_block]
            obtain ⟨x27, h_x27, hm2⟩ := bind_get hm2
            have h_x270 := get_nn h_x27
            have h_x271 := get_lt h_x27
            refine cw_reg_seq fun K hK => ?_
            simp only [go_sem, s1, s2, s7, lt_o5, ielem_get h_x27, irow_get h_x27, h_x270, h_x271]
            refine hK _ _ ?_
            clear hK K
            simp only [go_sem]
            refine ibr_intro (fun hc28 => ?_) (fun hc28 => ?_)
            · rw [if_t hc28] at hm2
              refine cw_reg_k fun K hK => ?_
              simp only [go_sem, s2, s7, lt_o5, ielem_get h_x27, irow_get h_x27, h_x270, h_x271]
              refine hK _ _ ?_
              clear hK K
              simp only [qblock_normal, qseq_normal]
              exact J25 x27.Rate _ _ s1 s2 (by first | exact s5 | simp only [go_sem, s5, List.length_append, List.map_append]) (by first | (simp only [go_sem, s6, List.length_append, List.map_append]; done) | rfl) s7 s8 s19 s20 ob_o5 lt_o5 hm2
            · rw [if_f hc28] at hm2
              simp only [cw_skip, qblock_normal, qseq_normal]
              exact J25 now_6_1 _ _ s1 s2 (by first | exact s5 | simp only [go_sem, s5, List.length_append, List.map_append]) s6 s7 s8 s19 s20 ob_o5 lt_o5 hm2
          · rw [if_f hc23] at hm2
            simp only [cw_exit, qseq_exit, qblock_same, qblock_ne, qblock_normal, qseq_normal, Nat.reduceEqDiff, not_false_eq_true]
            obtain rfl := Option.some.inj hm2
            obtain rfl := hb16 _ rfl
            try dsimp only at hm1
            exact J13 now_6_1 at_7_1 _ _ s1 s2 (by first | exact s5 | simp only [go_sem, s5, List.length_append, List.map_append]) s6 s7 s8 s19 s20 ob_o5 lt_o5 hm1
    · rw [if_f hc9] at hm1
      simp only [cw_exit, qseq_exit, qblock_same, qblock_ne, qblock_normal, qseq_normal, Nat.reduceEqDiff, not_false_eq_true]
      obtain rfl := Option.some.inj hm1
      obtain rfl := hb7 _ rfl
      try dsimp only at hm0
      exact J6 out_5 i5 _ _ (by first | exact s5 | simp only [go_sem, s5, List.length_append, List.map_append]) ob_o5 lt_o5 hm0

end Go.Nw.HM

namespace Go.Nw.HM
open Go.Nw.Halls
set_option linter.unusedSimpArgs false
set_option linter.unusedVariables false
set_option maxHeartbeats 4000000
variable {O : Orac}

theorem k_halls_span (hf : Has O "newel/halls.span" x_halls_span) : C_halls_span O := by
  intro s low high
  generalize hm0 : halls_span s low high = r
  unfold halls_span at hm0
  refine fn_cw hf rfl (fz_cons (.agg _ (fz_cons (frz_v _) (fz_cons (frz_v _) fz_nil))) (fz_cons (frz_v _) (fz_cons (frz_v _) fz_nil))) (frz_v _) ?_
  refine cw_start (fun t h => t 0 = .agg [I s.Low, I s.High] ∧ t 1 = I low ∧ t 2 = I high) ⟨rfl, rfl, rfl⟩ fun t h ⟨s0, s1, s2⟩ => ?_
  simp only [x_halls_span]
  refine cw_reg_seq fun K hK => ?_
  simp only [go_sem, s0]
  refine hK _ _ ?_
  clear hK K
  refine cw_reg_postK (fun t h => t 6 = B (((decide (low ≤ s.Low)) && (decide (s.Low ≤ s.High))) && (decide (s.High ≤ high)))) (fun K hK => ?_) ?_
  · simp only [go_sem, s1, s2]
    refine ibr_intro (fun hg1 => ?_) (fun hg1 => ?_)
    · simp only [go_sem, s1, s2, hg1]
      refine ibr_intro (fun hg2 => ?_) (fun hg2 => ?_)
      · simp only [go_sem, s1, s2, hg1, hg2]
        exact hK _ _ (by first | (simp only [go_sem, hg1, hg2, List.length_append, List.map_append]; done) | rfl)
      · simp only [go_sem, s1, s2, hg1, hg2]
        exact hK _ _ (by first | (simp only [go_sem, hg1, hg2, List.length_append, List.map_append]; done) | rfl)
    · simp only [go_sem, s1, s2, hg1]
      exact hK _ _ (by first | (simp only [go_sem, hg1, List.length_append, List.map_append]; done) | rfl)
  · rintro t h s6
    simp only [cw_ret, qseq_ret, qblock_ret, retQ_ret]
    obtain rfl := hm0
    exact done_t (by simp only [go_sem, s6, List.length_append, List.map_append]) (frz_v _)

end Go.Nw.HM

namespace Go.Nw.HM
open Go.Nw.Halls
set_option linter.unusedSimpArgs false
set_option linter.unusedVariables false
set_option maxHeartbeats 4000000
variable {O : Orac}

theorem k_l06_Example (hf : Has O "newel/newellaw06.Example" x_l06_Example) : C_l06_Example O := by
  intro _
  generalize hm0 : l06_Example = r
  unfold l06_Example at hm0
  refine fn_cw hf rfl fz_nil (.agg _ (fz_cons (frz_fs fun a _ => fz_eComb a) (fz_cons (frz_fs fun a _ => fz_eTrain a) (fz_cons (frz_fs fun a _ => fz_eShift a) (fz_cons (frz_v _) fz_nil))))) ?_
  refine cw_start (fun t h => True) trivial fun t h _ => ?_
  simp only [x_l06_Example]
  refine cw_reg_seq fun K hK => ?_
  simp only [go_sem]
  refine hK _ _ ?_
  clear hK K
  refine cw_reg_seq fun K hK => ?_
  simp only [go_sem]
  refine hK _ _ ?_
  clear hK K
  simp only [cw_ret, qseq_ret, qblock_ret, retQ_ret]
  obtain rfl := hm0
  exact done_cell (id := h.nx) (m := 4) (cs := [.rs (nxs h.nx) 0 (2), .rs (nxs (nxs (nxs (nxs h.nx)))) 0 2, .v (.slice none 0 0), I 20]) (by simp only [go_sem, List.length_append, List.map_append]) (by simp only [go_sem, List.length_append, List.map_append]) rfl (fz_agg (.cons (fz_rs (f := eComb) (l := ([(Comb.mk 3 12 1 (Span.mk 2 3)), (Comb.mk 2 10 (-1) (Span.mk 1 1))])) (id := (nxs h.nx)) (by simp only [go_sem, List.length_append, List.map_append]) (by first | rfl | simp only [go_sem, List.length_append, List.map_append]) fz_eComb ln_eComb) (.cons (fz_lit (id := (nxs (nxs (nxs (nxs h.nx))))) (sz := 3) (rows := [[I 2, I 4, .rs (nxs (nxs h.nx)) 0 (1)], [I 5, I 5, .rs (nxs (nxs (nxs h.nx))) 0 (2)]]) (by simp only [go_sem]) rfl (.cons (.cons (.refl _ (frz_v _)) (.cons (.refl _ (frz_v _)) (.cons (fz_rs (f := eCrowd) (l := ([(Crowd.mk 0 (Span.mk 6 10))])) (id := (nxs (nxs h.nx))) (by simp only [go_sem, List.length_append, List.map_append]) (by first | rfl | simp only [go_sem, List.length_append, List.map_append]) fz_eCrowd ln_eCrowd) (.nil)))) (.cons (.cons (.refl _ (frz_v _)) (.cons (.refl _ (frz_v _)) (.cons (fz_rs (f := eCrowd) (l := ([(Crowd.mk 0 (Span.mk 0 4)), (Crowd.mk 1 (Span.mk 3 3))])) (id := (nxs (nxs (nxs h.nx)))) (by simp only [go_sem, List.length_append, List.map_append]) (by first | rfl | simp only [go_sem, List.length_append, List.map_append]) fz_eCrowd ln_eCrowd) (.nil)))) (.nil))) (by intro d hd; obtain ⟨x, _, rfl⟩ := List.mem_map.1 hd; exact ln_eTrain x)) (.cons (.nil _) (.cons (.refl _ (frz_v _)) (.nil))))))

end Go.Nw.HM

namespace Go.Nw.HM
open Go.Nw.Halls
set_option linter.unusedSimpArgs false
set_option linter.unusedVariables false
set_option maxHeartbeats 4000000
variable {O : Orac}

theorem k_l06_Far (hf : Has O "newel/newellaw06.Far" x_l06_Far) : C_l06_Far O := by
  intro h_ r hm0
  unfold l06_Far at hm0
  refine fn_cw hf rfl (fz_cons (.agg _ (fz_cons (frz_fs fun a _ => fz_eComb a) (fz_cons (frz_fs fun a _ => fz_eTrain a) (fz_cons (frz_fs fun a _ => fz_eShift a) (fz_cons (frz_v _) fz_nil))))) fz_nil) (frz_v _) ?_
  refine cw_start (fun t h => t 0 = .agg [.fs 5 (List.map eComb h_.Combs), .fs 3 (List.map eTrain h_.Trains), .fs 3 (List.map eShift h_.Shifts), I h_.Until]) rfl fun t h s0 => ?_
  simp only [x_l06_Far]
  refine cw_reg_seq fun K hK => ?_
  simp only [go_sem, s0]
  refine hK _ _ ?_
  clear hK K
  refine cw_assoc ?_
  refine cw_reg_postK (fun t h => t 1 = .fp [.fs 5 (List.map eComb h_.Combs), .fs 3 (List.map eTrain h_.Trains), .fs 3 (List.map eShift h_.Shifts), I h_.Until] 0 ∧ t 29 = B ((((decide (12 < (List.length h_.Combs : Int))) || (decide (20 < (List.length h_.Trains : Int)))) || (decide (40 < (List.length h_.Shifts : Int)))) || ((decide (40 < h_.Until)) && (decide (h_.Until ≤ 100))))) (fun K hK => ?_) ?_
  · simp only [go_sem]
    refine ibr_intro (fun hg1 => ?_) (fun hg1 => ?_)
    · simp only [go_sem, hg1]
      exact hK _ _ ⟨(by first | (simp only [go_sem, hg1, List.length_append, List.map_append]; done) | rfl), (by first | (simp only [go_sem, hg1, List.length_append, List.map_append]; done) | rfl)⟩
    · simp only [go_sem, hg1]
      refine ibr_intro (fun hg2 => ?_) (fun hg2 => ?_)
      · simp only [go_sem, hg1, hg2]
        exact hK _ _ ⟨(by first | (simp only [go_sem, hg1, hg2, List.length_append, List.map_append]; done) | rfl), (by first | (simp only [go_sem, hg1, hg2, List.length_append, List.map_append]; done) | rfl)⟩
      · simp only [go_sem, hg1, hg2]
        refine ibr_intro (fun hg3 => ?_) (fun hg3 => ?_)
        · simp only [go_sem, hg1, hg2, hg3]
          exact hK _ _ ⟨(by first | (simp only [go_sem, hg1, hg2, hg3, List.length_append, List.map_append]; done) | rfl), (by first | (simp only [go_sem, hg1, hg2, hg3, List.length_append, List.map_append]; done) | rfl)⟩
        · simp only [go_sem, hg1, hg2, hg3]
          refine ibr_intro (fun hg4 => ?_) (fun hg4 => ?_)
          · simp only [go_sem, hg1, hg2, hg3, hg4]
            exact hK _ _ ⟨(by first | (simp only [go_sem, hg1, hg2, hg3, hg4, List.length_append, List.map_append]; done) | rfl), (by first | (simp only [go_sem, hg1, hg2, hg3, hg4, List.length_append, List.map_append]; done) | rfl)⟩
          · simp only [go_sem, hg1, hg2, hg3, hg4]
            exact hK _ _ ⟨(by first | (simp only [go_sem, hg1, hg2, hg3, hg4, List.length_append, List.map_append]; done) | rfl), (by first | (simp only [go_sem, hg1, hg2, hg3, hg4, List.length_append, List.map_append]; done) | rfl)⟩
  · rintro t h ⟨s1, s29⟩
    refine cw_seq_k fun K5 hK5 => ?_
    simp only [go_sem, s29]
    refine ibr_intro (fun hc6 => ?_) (fun hc6 => ?_)
    · rw [if_t hc6] at hm0
      refine cw_reg_seq fun K hK => ?_
      simp only [go_sem]
      refine hK _ _ ?_
      clear hK K
      simp only [cw_ret, qseq_ret, qblock_ret, retQ_ret]
      obtain rfl := Option.some.inj hm0
      exact done_t (by simp only [go_sem, List.length_append, List.map_append]) (frz_v _)
    · rw [if_f hc6] at hm0
      simp only [cw_skip, qblock_normal, qseq_normal]
      refine hK5 _ _ ?_
      refine cw_assoc ?_
      refine cw_reg_seq fun K hK => ?_
      simp only [go_sem]
      refine hK _ _ ?_
      clear hK K
      refine cw_seq_k fun K7 hK7 => ?_
      have J8 : ∀ (t : Slots) (h : Heap), l06_Far_j8 = some r → K7 t h := by
        intro t h hm0
        refine hK7 _ _ ?_
        unfold l06_Far_j8 at hm0
        refine cw_reg_seq fun K hK => ?_
        simp only [go_sem]
        refine hK _ _ ?_
        clear hK K
        simp only [cw_ret, qseq_ret, qblock_ret, retQ_ret]
        obtain rfl := Option.some.inj hm0
        exact done_t (by simp only [go_sem, List.length_append, List.map_append]) (frz_v _)
      simp only [cw_block]
      obtain ⟨b9, hl9, hm0⟩ := bind_get hm0
      refine cw_loopM hl9 (fun | i_3, t, h => t 1 = .fp [.fs 5 (List.map eComb h_.Combs), .fs 3 (List.map eTrain h_.Trains), .fs 3 (List.map eShift h_.Shifts), I h_.Until] 0 ∧ t 3 = I i_3) ?_ ?_
      · exact ⟨s1, (by first | (simp only [go_sem, List.length_append, List.map_append]; done) | rfl)⟩
      · rintro i_3 o t h ⟨s1, s3⟩ hm1 hb9
        simp only [l06_Far_L8] at hm1
        rw [x_l06_Far_L8]
        refine cw_assoc ?_
        refine cw_reg_seq fun K hK => ?_
        simp only [go_sem, s1, s3]
        refine hK _ _ ?_
        clear hK K
        refine cw_seq_k fun K10 hK10 => ?_
        simp only [go_sem]
        refine ibr_intro (fun hc11 => ?_) (fun hc11 => ?_)
        · rw [if_t hc11] at hm1
          simp only [cw_skip, qblock_normal, qseq_normal]
          refine hK10 _ _ ?_
          refine cw_seq_k fun K12 hK12 => ?_
          simp only [cw_block]
          obtain ⟨x14, h_x14, hm1⟩ := bind_get hm1
          have h_x140 := get_nn h_x14
          have h_x141 := get_lt h_x14
          refine cw_reg_seq fun K hK => ?_
          simp only [go_sem, s1, s3, ielem_get h_x14, irow_get h_x14, h_x140, h_x141]
          refine hK _ _ ?_
          clear hK K
          simp only [go_sem]
          refine ibr_intro (fun hc15 => ?_) (fun hc15 => ?_)
          · rw [if_t hc15] at hm1
            refine cw_reg_seq fun K hK => ?_
            simp only [go_sem]
            refine hK _ _ ?_
            clear hK K
            simp only [cw_ret, qseq_ret, qblock_ret, retQ_ret]
            obtain rfl := Option.some.inj hm1
            obtain rfl := hb9 _ rfl
            try dsimp only at hm0
            obtain rfl := Option.some.inj hm0
            exact done_t (by simp only [go_sem, List.length_append, List.map_append]) (frz_v _)
          · rw [if_f hc15] at hm1
            simp only [cw_skip, qblock_normal, qseq_normal]
            refine hK12 _ _ ?_
            refine cw_reg_k fun K hK => ?_
            simp only [go_sem, s3]
            refine hK _ _ ?_
            clear hK K
            simp only [qblock_normal, qseq_normal]
            obtain rfl := Option.some.inj hm1
            refine ⟨_, rfl, ?_⟩
            exact ⟨s1, (by first | (simp only [go_sem, s3, List.length_append, List.map_append]; done) | rfl)⟩
        · rw [if_f hc11] at hm1
          simp only [cw_exit, qseq_exit, qblock_same, qblock_ne, qblock_normal, qseq_normal, Nat.reduceEqDiff, not_false_eq_true]
          obtain rfl := Option.some.inj hm1
          obtain rfl := hb9 _ rfl
          try dsimp only at hm0
          exact J8  _ _  hm0

end Go.Nw.HM

namespace Go.Nw.HM
open Go.Nw.Halls
set_option linter.unusedSimpArgs false
set_option linter.unusedVariables false
set_option maxHeartbeats 4000000
variable {O : Orac}

theorem k_l06_HallsGuard (hf : Has O "newel/newellaw06.HallsGuard" x_l06_HallsGuard) (k_l06_Far : C_l06_Far O) (k_r06_Check : C_r06_Check O) (k_l06_works : C_l06_works O) (k_halls_Guard : C_halls_Guard O) (k_r06_Shut : C_r06_Shut O) (k_halls_Over : C_halls_Over O) : C_l06_HallsGuard O := by
  intro h_ w_ r hm0
  unfold l06_HallsGuard at hm0
  refine fn_cw hf rfl (fz_cons (.agg _ (fz_cons (frz_fs fun a _ => fz_eComb a) (fz_cons (frz_fs fun a _ => fz_eTrain a) (fz_cons (frz_fs fun a _ => fz_eShift a) (fz_cons (frz_v _) fz_nil))))) (fz_cons (.agg _ (fz_cons (frz_v _) (fz_cons (frz_v _) (fz_cons (frz_v _) fz_nil)))) fz_nil)) (frz_v _) ?_
  refine cw_start (fun t h => t 0 = .agg [.fs 5 (List.map eComb h_.Combs), .fs 3 (List.map eTrain h_.Trains), .fs 3 (List.map eShift h_.Shifts), I h_.Until] ∧ t 1 = .agg [I w_.Comb, I w_.From, I w_.To]) ⟨rfl, rfl⟩ fun t h ⟨s0, s1⟩ => ?_
  simp only [x_l06_HallsGuard]
  refine cw_reg_seq fun K hK => ?_
  simp only [go_sem, s0, s1]
  refine hK _ _ ?_
  clear hK K
  refine cw_assoc ?_
  obtain ⟨y4, h_y4, hm0⟩ := bind_get hm0
  obtain ⟨c6, h_c6, hm0⟩ := bind_get hm0
  refine cw_reg_postK (fun t h => t 2 = .fp [.fs 5 (List.map eComb h_.Combs), .fs 3 (List.map eTrain h_.Trains), .fs 3 (List.map eShift h_.Shifts), I h_.Until] 0 ∧ t 3 = .fp [I w_.Comb, I w_.From, I w_.To] 0 ∧ t 45 = B ((((c6 || (decide (w_.Comb < 0))) || (decide ((List.length h_.Combs : Int) ≤ w_.Comb))) || (decide (w_.From < 0))) || (decide (h_.Until ≤ w_.From)))) (fun K hK => ?_) ?_
  · simp only [go_sem]
    refine icall_fn (k_l06_Far h_ _ h_y4) ?_
    simp only [go_sem]
    refine ibr_intro (fun hg7 => ?_) (fun hg7 => ?_)
    · simp only [hg7, Bool.not_true, Bool.not_false, eq_self, if_true, if_false, Bool.true_or, Bool.or_true, Bool.false_or, Bool.or_false, Bool.true_and, Bool.and_true, Bool.false_and, Bool.and_false, Bool.false_eq_true] at h_c6
      obtain rfl := Option.some.inj h_c6
      simp only [go_sem, hg7]
      exact hK _ _ ⟨(by first | (simp only [go_sem, hg7, List.length_append, List.map_append]; done) | rfl), (by first | (simp only [go_sem, hg7, List.length_append, List.map_append]; done) | rfl), (by first | (simp only [go_sem, hg7, List.length_append, List.map_append]; done) | rfl)⟩
    · simp only [hg7, Bool.not_true, Bool.not_false, eq_self, if_true, if_false, Bool.true_or, Bool.or_true, Bool.false_or, Bool.or_false, Bool.true_and, Bool.and_true, Bool.false_and, Bool.and_false, Bool.false_eq_true] at h_c6
      obtain ⟨y5, h_y5, h_c6⟩ := bind_get h_c6
      obtain rfl := Option.some.inj h_c6
      simp only [go_sem, hg7]
      refine icall_fn (k_r06_Check h_ _ h_y5) ?_
      simp only [go_sem, hg7]
      refine ibr_intro (fun hg8 => ?_) (fun hg8 => ?_)
      · simp only [go_sem, hg7, hg8]
        exact hK _ _ ⟨(by first | (simp only [go_sem, hg7, hg8, List.length_append, List.map_append]; done) | rfl), (by first | (simp only [go_sem, hg7, hg8, List.length_append, List.map_append]; done) | rfl), (by first | (simp only [go_sem, hg7, hg8, List.length_append, List.map_append]; done) | rfl)⟩
      · simp only [go_sem, hg7, hg8]
        refine ibr_intro (fun hg9 => ?_) (fun hg9 => ?_)
        · simp only [go_sem, hg7, hg8, hg9]
          exact hK _ _ ⟨(by first | (simp only [go_sem, hg7, hg8, hg9, List.length_append, List.map_append]; done) | rfl), (by first | (simp only [go_sem, hg7, hg8, hg9, List.length_append, List.map_append]; done) | rfl), (by first | (simp only [go_sem, hg7, hg8, hg9, List.length_append, List.map_append]; done) | rfl)⟩
        · simp only [go_sem, hg7, hg8, hg9]
          refine ibr_intro (fun hg10 => ?_) (fun hg10 => ?_)
          · simp only [go_sem, hg7, hg8, hg9, hg10]
            exact hK _ _ ⟨(by first | (simp only [go_sem, hg7, hg8, hg9, hg10, List.length_append, List.map_append]; done) | rfl), (by first | (simp only [go_sem, hg7, hg8, hg9, hg10, List.length_append, List.map_append]; done) | rfl), (by first | (simp only [go_sem, hg7, hg8, hg9, hg10, List.length_append, List.map_append]; done) | rfl)⟩
          · simp only [go_sem, hg7, hg8, hg9, hg10]
            refine ibr_intro (fun hg11 => ?_) (fun hg11 => ?_)
            · simp only [go_sem, hg7, hg8, hg9, hg10, hg11]
              exact hK _ _ ⟨(by first | (simp only [go_sem, hg7, hg8, hg9, hg10, hg11, List.length_append, List.map_append]; done) | rfl), (by first | (simp only [go_sem, hg7, hg8, hg9, hg10, hg11, List.length_append, List.map_append]; done) | rfl), (by first | (simp only [go_sem, hg7, hg8, hg9, hg10, hg11, List.length_append, List.map_append]; done) | rfl)⟩
            · simp only [go_sem, hg7, hg8, hg9, hg10, hg11]
              exact hK _ _ ⟨(by first | (simp only [go_sem, hg7, hg8, hg9, hg10, hg11, List.length_append, List.map_append]; done) | rfl), (by first | (simp only [go_sem, hg7, hg8, hg9, hg10, hg11, List.length_append, List.map_append]; done) | rfl), (by first | (simp only [go_sem, hg7, hg8, hg9, hg10, hg11, List.length_append, List.map_append]; done) | rfl)⟩
  · rintro t h ⟨s2, s3, s45⟩
    refine cw_seq_k fun K12 hK12 => ?_
    simp only [go_sem, s45]
    refine ibr_intro (fun hc13 => ?_) (fun hc13 => ?_)
    · rw [if_t hc13] at hm0
      obtain ⟨y15, h_y15, hm0⟩ := bind_get hm0
      refine cw_reg_seq fun K hK => ?_
      simp only [go_sem]
      refine icall_fn (k_l06_works  _ h_y15) ?_
      simp only [go_sem]
      refine hK _ _ ?_
      clear hK K
      simp only [cw_ret, qseq_ret, qblock_ret, retQ_ret]
      obtain rfl := Option.some.inj hm0
      exact done_t (by simp only [go_sem, List.length_append, List.map_append]) (frz_v _)
    · rw [if_f hc13] at hm0
      simp only [cw_skip, qblock_normal, qseq_normal]
      refine hK12 _ _ ?_
      obtain ⟨y17, h_y17, hm0⟩ := bind_get hm0
      refine cw_reg_seq fun K hK => ?_
      simp only [go_sem, s2, s3]
      refine icall_fn (k_halls_Guard h_ w_.Comb w_.From _ h_y17) ?_
      simp only [go_sem, s2, s3]
      refine hK _ _ ?_
      clear hK K
      refine cw_assoc ?_
      refine cw_reg_postK (fun t h => t 2 = .fp [.fs 5 (List.map eComb h_.Combs), .fs 3 (List.map eTrain h_.Trains), .fs 3 (List.map eShift h_.Shifts), I h_.Until] 0 ∧ t 3 = .fp [I w_.Comb, I w_.From, I w_.To] 0 ∧ t 5 = I y17.1 ∧ t 6 = I y17.2 ∧ t 78 = B (((decide (¬y17.2 = 0)) && (decide (¬y17.2 = 3))) || ((decide (y17.2 = 0)) && ((decide (y17.1 < 0)) || (decide ((wr (h_.Until - w_.From)) < y17.1)))))) (fun K hK => ?_) ?_
      · simp only [go_sem, s2, s3]
        refine ibr_intro (fun hg18 => ?_) (fun hg18 => ?_)
        · simp only [go_sem, s2, s3, hg18]
          refine ibr_intro (fun hg19 => ?_) (fun hg19 => ?_)
          · simp only [go_sem, s2, s3, hg18, hg19]
            exact hK _ _ ⟨s2, s3, (by first | (simp only [go_sem, hg18, hg19, List.length_append, List.map_append]; done) | rfl), (by first | (simp only [go_sem, hg18, hg19, List.length_append, List.map_append]; done) | rfl), (by first | (simp only [go_sem, hg18, hg19, List.length_append, List.map_append]; done) | rfl)⟩
          · simp only [go_sem, s2, s3, hg18, hg19]
            refine ibr_intro (fun hg20 => ?_) (fun hg20 => ?_)
            · simp only [go_sem, s2, s3, hg18, hg19, hg20]
              refine ibr_intro (fun hg21 => ?_) (fun hg21 => ?_)
              · simp only [go_sem, s2, s3, hg18, hg19, hg20, hg21]
                exact hK _ _ ⟨s2, s3, (by first | (simp only [go_sem, hg18, hg19, hg20, hg21, List.length_append, List.map_append]; done) | rfl), (by first | (simp only [go_sem, hg18, hg19, hg20, hg21, List.length_append, List.map_append]; done) | rfl), (by first | (simp only [go_sem, hg18, hg19, hg20, hg21, List.length_append, List.map_append]; done) | rfl)⟩
              · simp only [go_sem, s2, s3, hg18, hg19, hg20, hg21]
                exact hK _ _ ⟨s2, s3, (by first | (simp only [go_sem, hg18, hg19, hg20, hg21, List.length_append, List.map_append]; done) | rfl), (by first | (simp only [go_sem, hg18, hg19, hg20, hg21, List.length_append, List.map_append]; done) | rfl), (by first | (simp only [go_sem, hg18, hg19, hg20, hg21, List.length_append, List.map_append]; done) | rfl)⟩
            · simp only [go_sem, s2, s3, hg18, hg19, hg20]
              exact hK _ _ ⟨s2, s3, (by first | (simp only [go_sem, hg18, hg19, hg20, List.length_append, List.map_append]; done) | rfl), (by first | (simp only [go_sem, hg18, hg19, hg20, List.length_append, List.map_append]; done) | rfl), (by first | (simp only [go_sem, hg18, hg19, hg20, List.length_append, List.map_append]; done) | rfl)⟩
        · simp only [go_sem, s2, s3, hg18]
          refine ibr_intro (fun hg22 => ?_) (fun hg22 => ?_)
          · simp only [go_sem, s2, s3, hg18, hg22]
            refine ibr_intro (fun hg23 => ?_) (fun hg23 => ?_)
            · simp only [go_sem, s2, s3, hg18, hg22, hg23]
              exact hK _ _ ⟨s2, s3, (by first | (simp only [go_sem, hg18, hg22, hg23, List.length_append, List.map_append]; done) | rfl), (by first | (simp only [go_sem, hg18, hg22, hg23, List.length_append, List.map_append]; done) | rfl), (by first | (simp only [go_sem, hg18, hg22, hg23, List.length_append, List.map_append]; done) | rfl)⟩
            · simp only [go_sem, s2, s3, hg18, hg22, hg23]
              exact hK _ _ ⟨s2, s3, (by first | (simp only [go_sem, hg18, hg22, hg23, List.length_append, List.map_append]; done) | rfl), (by first | (simp only [go_sem, hg18, hg22, hg23, List.length_append, List.map_append]; done) | rfl), (by first | (simp only [go_sem, hg18, hg22, hg23, List.length_append, List.map_append]; done) | rfl)⟩
          · simp only [go_sem, s2, s3, hg18, hg22]
            exact hK _ _ ⟨s2, s3, (by first | (simp only [go_sem, hg18, hg22, List.length_append, List.map_append]; done) | rfl), (by first | (simp only [go_sem, hg18, hg22, List.length_append, List.map_append]; done) | rfl), (by first | (simp only [go_sem, hg18, hg22, List.length_append, List.map_append]; done) | rfl)⟩
      · rintro t h ⟨s2, s3, s5, s6, s78⟩
        refine cw_seq_k fun K24 hK24 => ?_
        simp only [go_sem, s78]
        refine ibr_intro (fun hc25 => ?_) (fun hc25 => ?_)
        · rw [if_t hc25] at hm0
          refine cw_reg_seq fun K hK => ?_
          simp only [go_sem]
          refine hK _ _ ?_
          clear hK K
          simp only [cw_ret, qseq_ret, qblock_ret, retQ_ret]
          obtain rfl := Option.some.inj hm0
          exact done_t (by simp only [go_sem, List.length_append, List.map_append]) (frz_v _)
        · rw [if_f hc25] at hm0
          simp only [cw_skip, qblock_normal, qseq_normal]
          refine hK24 _ _ ?_
          refine cw_reg_seq fun K hK => ?_
          simp only [go_sem, s3]
          refine hK _ _ ?_
          clear hK K
          refine cw_assoc ?_
          refine cw_reg_postK (fun t h => t 2 = .fp [.fs 5 (List.map eComb h_.Combs), .fs 3 (List.map eTrain h_.Trains), .fs 3 (List.map eShift h_.Shifts), I h_.Until] 0 ∧ t 3 = .fp [I w_.Comb, I w_.From, I w_.To] 0 ∧ t 5 = I y17.1 ∧ t 6 = I y17.2 ∧ t 7 = I w_.To ∧ t 91 = B ((decide (w_.To < 0)) || (decide ((wr (h_.Until - w_.From)) < w_.To)))) (fun K hK => ?_) ?_
          · simp only [go_sem, s2, s3]
            refine ibr_intro (fun hg26 => ?_) (fun hg26 => ?_)
            · simp only [go_sem, s2, s3, hg26]
              exact hK _ _ ⟨s2, s3, s5, s6, (by first | (simp only [go_sem, hg26, List.length_append, List.map_append]; done) | rfl), (by first | (simp only [go_sem, hg26, List.length_append, List.map_append]; done) | rfl)⟩
            · simp only [go_sem, s2, s3, hg26]
              exact hK _ _ ⟨s2, s3, s5, s6, (by first | (simp only [go_sem, hg26, List.length_append, List.map_append]; done) | rfl), (by first | (simp only [go_sem, hg26, List.length_append, List.map_append]; done) | rfl)⟩
          · rintro t h ⟨s2, s3, s5, s6, s7, s91⟩
            refine cw_seq_k fun K27 hK27 => ?_
            have J28 : ∀ (ticks_7 : Int) (t : Slots) (h : Heap), t 2 = .fp [.fs 5 (List.map eComb h_.Combs), .fs 3 (List.map eTrain h_.Trains), .fs 3 (List.map eShift h_.Shifts), I h_.Until] 0 → t 3 = .fp [I w_.Comb, I w_.From, I w_.To] 0 → t 5 = I y17.1 → t 6 = I y17.2 → t 7 = I ticks_7 → l06_HallsGuard_j28 h_ w_ y17 ticks_7 = some r → K27 t h := by
              intro ticks_7 t h s2 s3 s5 s6 s7 hm0
              refine hK27 _ _ ?_
              unfold l06_HallsGuard_j28 at hm0
              obtain ⟨y30, h_y30, hm0⟩ := bind_get hm0
              refine cw_reg_seq fun K hK => ?_
              simp only [go_sem, s2, s3, s7]
              refine icall_fn (k_r06_Shut h_ w_.Comb w_.From ticks_7 _ h_y30) ?_
              simp only [go_sem, s2, s3, s7]
              refine hK _ _ ?_
              clear hK K
              refine cw_assoc ?_
              obtain ⟨y32, h_y32, hm0⟩ := bind_get hm0
              refine cw_reg_postK (fun t h => ∃ i8 : Nat, t 2 = .fp [.fs 5 (List.map eComb h_.Combs), .fs 3 (List.map eTrain h_.Trains), .fs 3 (List.map eShift h_.Shifts), I h_.Until] 0 ∧ t 3 = .fp [I w_.Comb, I w_.From, I w_.To] 0 ∧ t 5 = I y17.1 ∧ t 6 = I y17.2 ∧ t 8 = .rp i8 0 0 ∧ t 110 = B ((decide (y32 = 0)) && ((decide (y17.2 = 3)) || (decide (ticks_7 < y17.1)))) ∧ h.ob i8 = some (4, [[.fs 5 (List.map eComb y30.Combs), .fs 3 (List.map eTrain y30.Trains), .fs 3 (List.map eShift y30.Shifts), I y30.Until]]) ∧ i8 < h.nx) (fun K hK => ?_) ?_
              · simp only [go_sem, s5, s6, s7]
                refine icall_fn (k_r06_Check y30 _ h_y32) ?_
                simp only [go_sem, s5, s6, s7]
                refine ibr_intro (fun hg33 => ?_) (fun hg33 => ?_)
                · simp only [go_sem, s5, s6, s7, hg33]
                  refine ibr_intro (fun hg34 => ?_) (fun hg34 => ?_)
                  · simp only [go_sem, s5, s6, s7, hg33, hg34]
                    exact hK _ _ ⟨h.nx, s2, s3, s5, s6, (by first | (simp only [go_sem, hg33, hg34, List.length_append, List.map_append]; done) | rfl), (by first | (simp only [go_sem, hg33, hg34, List.length_append, List.map_append]; done) | rfl), (by simp only [go_sem, hg33, hg34, List.length_append, List.map_append]), (by simp only [go_sem])⟩
                  · simp only [go_sem, s5, s6, s7, hg33, hg34]
                    exact hK _ _ ⟨h.nx, s2, s3, s5, s6, (by first | (simp only [go_sem, hg33, hg34, List.length_append, List.map_append]; done) | rfl), (by first | (simp only [go_sem, hg33, hg34, List.length_append, List.map_append]; done) | rfl), (by simp only [go_sem, hg33, hg34, List.length_append, List.map_append]), (by simp only [go_sem])⟩
                · simp only [go_sem, s5, s6, s7, hg33]
                  exact hK _ _ ⟨h.nx, s2, s3, s5, s6, (by first | (simp only [go_sem, hg33, List.length_append, List.map_append]; done) | rfl), (by first | (simp only [go_sem, hg33, List.length_append, List.map_append]; done) | rfl), (by simp only [go_sem, hg33, List.length_append, List.map_append]), (by simp only [go_sem])⟩
              · rintro t h ⟨i8, s2, s3, s5, s6, s8, s110, ob_o8, lt_o8⟩
                refine cw_seq_k fun K35 hK35 => ?_
                have J36 : ∀ (t : Slots) (h : Heap), t 2 = .fp [.fs 5 (List.map eComb h_.Combs), .fs 3 (List.map eTrain h_.Trains), .fs 3 (List.map eShift h_.Shifts), I h_.Until] 0 → t 3 = .fp [I w_.Comb, I w_.From, I w_.To] 0 → t 5 = I y17.1 → t 6 = I y17.2 → l06_HallsGuard_j36 h_ w_ y17 = some r → K35 t h := by
                  intro t h s2 s3 s5 s6 hm0
                  refine hK35 _ _ ?_
                  unfold l06_HallsGuard_j36 at hm0
                  obtain ⟨y38, h_y38, hm0⟩ := bind_get hm0
                  refine cw_reg_seq fun K hK => ?_
                  simp only [go_sem, s2, s3, s5]
                  refine icall_fn (k_r06_Shut h_ w_.Comb w_.From y17.1 _ h_y38) ?_
                  simp only [go_sem, s2, s3, s5]
                  refine hK _ _ ?_
                  clear hK K
                  refine cw_assoc ?_
                  obtain ⟨c42, h_c42, hm0⟩ := bind_get hm0
                  refine cw_reg_postK (fun t h => ∃ i11 : Nat, t 11 = .rp i11 0 0 ∧ t 136 = B c42 ∧ h.ob i11 = some (4, [[.fs 5 (List.map eComb y38.Combs), .fs 3 (List.map eTrain y38.Trains), .fs 3 (List.map eShift y38.Shifts), I y38.Until]]) ∧ i11 < h.nx) (fun K hK => ?_) ?_
                  · simp only [go_sem, s6]
                    refine ibr_intro (fun hg43 => ?_) (fun hg43 => ?_)
                    · simp only [hg43, Bool.not_true, Bool.not_false, eq_self, if_true, if_false, Bool.true_or, Bool.or_true, Bool.false_or, Bool.or_false, Bool.true_and, Bool.and_true, Bool.false_and, Bool.and_false, Bool.false_eq_true] at h_c42
                      obtain ⟨y41, h_y41, h_c42⟩ := bind_get h_c42
                      obtain rfl := Option.some.inj h_c42
                      simp only [go_sem, s6, hg43]
                      refine icall_fn (k_r06_Check y38 _ h_y41) ?_
                      simp only [go_sem, s6, hg43]
                      exact hK _ _ ⟨h.nx, (by first | (simp only [go_sem, hg43, List.length_append, List.map_append]; done) | rfl), (by first | (simp only [go_sem, hg43, List.length_append, List.map_append]; done) | rfl), (by simp only [go_sem, hg43, List.length_append, List.map_append]), (by simp only [go_sem])⟩
                    · simp only [hg43, Bool.not_true, Bool.not_false, eq_self, if_true, if_false, Bool.true_or, Bool.or_true, Bool.false_or, Bool.or_false, Bool.true_and, Bool.and_true, Bool.false_and, Bool.and_false, Bool.false_eq_true] at h_c42
                      obtain rfl := Option.some.inj h_c42
                      simp only [go_sem, s6, hg43]
                      exact hK _ _ ⟨h.nx, (by first | (simp only [go_sem, hg43, List.length_append, List.map_append]; done) | rfl), (by first | (simp only [go_sem, hg43, List.length_append, List.map_append]; done) | rfl), (by simp only [go_sem, hg43, List.length_append, List.map_append]), (by simp only [go_sem])⟩
                  · rintro t h ⟨i11, s11, s136, ob_o11, lt_o11⟩
                    refine cw_seq_k fun K44 hK44 => ?_
                    have J45 : ∀ (t : Slots) (h : Heap), l06_HallsGuard_j45 = some r → K44 t h := by
                      intro t h hm0
                      refine hK44 _ _ ?_
                      unfold l06_HallsGuard_j45 at hm0
                      obtain ⟨y47, h_y47, hm0⟩ := bind_get hm0
                      refine cw_reg_seq fun K hK => ?_
                      simp only [go_sem]
                      refine icall_fn (k_l06_works  _ h_y47) ?_
                      simp only [go_sem]
                      refine hK _ _ ?_
                      clear hK K
                      simp only [cw_ret, qseq_ret, qblock_ret, retQ_ret]
                      obtain rfl := Option.some.inj hm0
                      exact done_t (by simp only [go_sem, List.length_append, List.map_append]) (frz_v _)
                    simp only [go_sem, s136]
                    refine ibr_intro (fun hc48 => ?_) (fun hc48 => ?_)
                    · rw [if_t hc48] at hm0
                      obtain ⟨y50, h_y50, hm0⟩ := bind_get hm0
                      refine cw_reg_seq fun K hK => ?_
                      simp only [go_sem, s11, ob_o11, lt_o11]
                      refine icall_fn (k_halls_Over y38 _ h_y50) ?_
                      simp only [go_sem, s11, ob_o11, lt_o11]
                      refine hK _ _ ?_
                      clear hK K
                      refine cw_reg_postK (fun t h => t 148 = B ((decide (¬y50.2 = 0)) || (decide (¬(List.length y50.1 : Int) = 0)))) (fun K hK => ?_) ?_
                      · simp only [go_sem, lt_o11]
                        refine ibr_intro (fun hg51 => ?_) (fun hg51 => ?_)
                        · simp only [go_sem, lt_o11, hg51]
                          exact hK _ _ (by first | (simp only [go_sem, hg51, List.length_append, List.map_append]; done) | rfl)
                        · simp only [go_sem, lt_o11, hg51]
                          exact hK _ _ (by first | (simp only [go_sem, hg51, List.length_append, List.map_append]; done) | rfl)
                      · rintro t h s148
                        simp only [go_sem, s148]
                        refine ibr_intro (fun hc52 => ?_) (fun hc52 => ?_)
                        · rw [if_t hc52] at hm0
                          refine cw_reg_seq fun K hK => ?_
                          simp only [go_sem]
                          refine hK _ _ ?_
                          clear hK K
                          simp only [cw_ret, qseq_ret, qblock_ret, retQ_ret]
                          obtain rfl := Option.some.inj hm0
                          exact done_t (by simp only [go_sem, List.length_append, List.map_append]) (frz_v _)
                        · rw [if_f hc52] at hm0
                          simp only [cw_skip, qblock_normal, qseq_normal]
                          exact J45  _ _  hm0
                    · rw [if_f hc48] at hm0
                      simp only [cw_skip, qblock_normal, qseq_normal]
                      exact J45  _ _  hm0
                simp only [go_sem, s110]
                refine ibr_intro (fun hc53 => ?_) (fun hc53 => ?_)
                · rw [if_t hc53] at hm0
                  obtain ⟨y55, h_y55, hm0⟩ := bind_get hm0
                  refine cw_reg_seq fun K hK => ?_
                  simp only [go_sem, s8, ob_o8, lt_o8]
                  refine icall_fn (k_halls_Over y30 _ h_y55) ?_
                  simp only [go_sem, s8, ob_o8, lt_o8]
                  refine hK _ _ ?_
                  clear hK K
                  refine cw_reg_postK (fun t h => t 2 = .fp [.fs 5 (List.map eComb h_.Combs), .fs 3 (List.map eTrain h_.Trains), .fs 3 (List.map eShift h_.Shifts), I h_.Until] 0 ∧ t 3 = .fp [I w_.Comb, I w_.From, I w_.To] 0 ∧ t 5 = I y17.1 ∧ t 6 = I y17.2 ∧ t 122 = B ((decide (¬y55.2 = 0)) || (decide ((List.length y55.1 : Int) = 0)))) (fun K hK => ?_) ?_
                  · simp only [go_sem, lt_o8]
                    refine ibr_intro (fun hg56 => ?_) (fun hg56 => ?_)
                    · simp only [go_sem, lt_o8, hg56]
                      exact hK _ _ ⟨s2, s3, s5, s6, (by first | (simp only [go_sem, hg56, List.length_append, List.map_append]; done) | rfl)⟩
                    · simp only [go_sem, lt_o8, hg56]
                      exact hK _ _ ⟨s2, s3, s5, s6, (by first | (simp only [go_sem, hg56, List.length_append, List.map_append]; done) | rfl)⟩
                  · rintro t h ⟨s2, s3, s5, s6, s122⟩
                    simp only [go_sem, s122]
                    refine ibr_intro (fun hc57 => ?_) (fun hc57 => ?_)
                    · rw [if_t hc57] at hm0
                      refine cw_reg_seq fun K hK => ?_
                      simp only [go_sem]
                      refine hK _ _ ?_
                      clear hK K
                      simp only [cw_ret, qseq_ret, qblock_ret, retQ_ret]
                      obtain rfl := Option.some.inj hm0
                      exact done_t (by simp only [go_sem, List.length_append, List.map_append]) (frz_v _)
                    · rw [if_f hc57] at hm0
                      simp only [cw_skip, qblock_normal, qseq_normal]
                      exact J36  _ _ s2 s3 s5 s6 hm0
                · rw [if_f hc53] at hm0
                  simp only [cw_skip, qblock_normal, qseq_normal]
                  exact J36  _ _ s2 s3 s5 s6 hm0
            simp only [go_sem, s91]
            refine ibr_intro (fun hc58 => ?_) (fun hc58 => ?_)
            · rw [if_t hc58] at hm0
              refine cw_reg_k fun K hK => ?_
              simp only [go_sem]
              refine hK _ _ ?_
              clear hK K
              simp only [qblock_normal, qseq_normal]
              exact J28 0 _ _ s2 s3 s5 s6 (by first | (simp only [go_sem, s7, List.length_append, List.map_append]; done) | rfl) hm0
            · rw [if_f hc58] at hm0
              simp only [cw_skip, qblock_normal, qseq_normal]
              exact J28 w_.To _ _ s2 s3 s5 s6 s7 hm0

end Go.Nw.HM

namespace Go.Nw.HM
open Go.Nw.Halls
set_option linter.unusedSimpArgs false
set_option linter.unusedVariables false
set_option maxHeartbeats 4000000
variable {O : Orac}

theorem k_l06_works (hf : Has O "newel/newellaw06.works" x_l06_works) (k_l06_Example : C_l06_Example O) (k_halls_Guard : C_halls_Guard O) (k_halls_Over : C_halls_Over O) : C_l06_works O := by
  intro r hm0
  unfold l06_works at hm0
  refine fn_cw hf rfl fz_nil (frz_v _) ?_
  refine cw_start (fun t h => True) trivial fun t h _ => ?_
  simp only [x_l06_works]
  refine cw_reg_seq fun K hK => ?_
  simp only [go_sem]
  refine hK _ _ ?_
  clear hK K
  obtain ⟨y2, h_y2, hm0⟩ := bind_get hm0
  refine cw_reg_seq fun K hK => ?_
  simp only [go_sem]
  refine icall_fn (k_l06_Example ()) ?_
  simp only [go_sem]
  refine icall_fn (k_halls_Guard l06_Example 0 5 _ h_y2) ?_
  simp only [go_sem]
  refine hK _ _ ?_
  clear hK K
  obtain ⟨y4, h_y4, hm0⟩ := bind_get hm0
  refine cw_reg_seq fun K hK => ?_
  simp only [go_sem]
  refine icall_fn (k_l06_Example ()) ?_
  simp only [go_sem]
  refine icall_fn (k_halls_Over l06_Example _ h_y4) ?_
  simp only [go_sem]
  refine hK _ _ ?_
  clear hK K
  obtain ⟨c8, h_c8, hm0⟩ := bind_get hm0
  refine cw_reg_postK (fun t h => t 0 = B c8) (fun K hK => ?_) ?_
  · simp only [go_sem]
    refine ibr_intro (fun hg9 => ?_) (fun hg9 => ?_)
    · simp only [go_sem, hg9]
      refine ibr_intro (fun hg10 => ?_) (fun hg10 => ?_)
      · simp only [go_sem, hg9, hg10]
        refine ibr_intro (fun hg11 => ?_) (fun hg11 => ?_)
        · simp only [go_sem, hg9, hg10, hg11]
          refine ibr_intro (fun hg12 => ?_) (fun hg12 => ?_)
          · simp only [hg9, hg10, hg11, hg12, Bool.not_true, Bool.not_false, eq_self, if_true, if_false, Bool.true_or, Bool.or_true, Bool.false_or, Bool.or_false, Bool.true_and, Bool.and_true, Bool.false_and, Bool.and_false, Bool.false_eq_true] at h_c8
            obtain ⟨x7, h_x7, h_c8⟩ := bind_get h_c8
            have h_x70 := get_nn h_x7
            have h_x71 := get_lt h_x7
            obtain rfl := Option.some.inj h_c8
            simp only [go_sem, ielem_get h_x7, irow_get h_x7, h_x70, h_x71, hg9, hg10, hg11, hg12]
            exact hK _ _ (by first | (simp only [go_sem, hg9, hg10, hg11, hg12, List.length_append, List.map_append]; done) | rfl)
          · simp only [hg9, hg10, hg11, hg12, Bool.not_true, Bool.not_false, eq_self, if_true, if_false, Bool.true_or, Bool.or_true, Bool.false_or, Bool.or_false, Bool.true_and, Bool.and_true, Bool.false_and, Bool.and_false, Bool.false_eq_true] at h_c8
            obtain rfl := Option.some.inj h_c8
            simp only [go_sem, hg9, hg10, hg11, hg12]
            exact hK _ _ (by first | (simp only [go_sem, hg9, hg10, hg11, hg12, List.length_append, List.map_append]; done) | rfl)
        · simp only [hg9, hg10, hg11, Bool.not_true, Bool.not_false, eq_self, if_true, if_false, Bool.true_or, Bool.or_true, Bool.false_or, Bool.or_false, Bool.true_and, Bool.and_true, Bool.false_and, Bool.and_false, Bool.false_eq_true] at h_c8
          obtain rfl := Option.some.inj h_c8
          simp only [go_sem, hg9, hg10, hg11]
          exact hK _ _ (by first | (simp only [go_sem, hg9, hg10, hg11, List.length_append, List.map_append]; done) | rfl)
      · simp only [hg9, hg10, Bool.not_true, Bool.not_false, eq_self, if_true, if_false, Bool.true_or, Bool.or_true, Bool.false_or, Bool.or_false, Bool.true_and, Bool.and_true, Bool.false_and, Bool.and_false, Bool.false_eq_true] at h_c8
        obtain rfl := Option.some.inj h_c8
        simp only [go_sem, hg9, hg10]
        exact hK _ _ (by first | (simp only [go_sem, hg9, hg10, List.length_append, List.map_append]; done) | rfl)
    · simp only [hg9, Bool.not_true, Bool.not_false, eq_self, if_true, if_false, Bool.true_or, Bool.or_true, Bool.false_or, Bool.or_false, Bool.true_and, Bool.and_true, Bool.false_and, Bool.and_false, Bool.false_eq_true] at h_c8
      obtain rfl := Option.some.inj h_c8
      simp only [go_sem, hg9]
      exact hK _ _ (by first | (simp only [go_sem, hg9, List.length_append, List.map_append]; done) | rfl)
  · rintro t h s0
    simp only [cw_ret, qseq_ret, qblock_ret, retQ_ret]
    obtain rfl := Option.some.inj hm0
    exact done_t (by simp only [go_sem, s0, List.length_append, List.map_append]) (frz_v _)

end Go.Nw.HM

namespace Go.Nw.HM
open Go.Nw.Halls
set_option linter.unusedSimpArgs false
set_option linter.unusedVariables false
set_option maxHeartbeats 4000000
variable {O : Orac}

theorem k_r06_Check (hf : Has O "newel/newelref06.Check" x_r06_Check) (k_r06_within : C_r06_within O) (k_r06_spanned : C_r06_spanned O) : C_r06_Check O := by
  intro h_ r hm0
  unfold r06_Check at hm0
  refine fn_cw hf rfl (fz_cons (.agg _ (fz_cons (frz_fs fun a _ => fz_eComb a) (fz_cons (frz_fs fun a _ => fz_eTrain a) (fz_cons (frz_fs fun a _ => fz_eShift a) (fz_cons (frz_v _) fz_nil))))) fz_nil) (frz_v _) ?_
  refine cw_start (fun t h => t 0 = .agg [.fs 5 (List.map eComb h_.Combs), .fs 3 (List.map eTrain h_.Trains), .fs 3 (List.map eShift h_.Shifts), I h_.Until]) rfl fun t h s0 => ?_
  simp only [x_r06_Check]
  refine cw_reg_seq fun K hK => ?_
  simp only [go_sem, s0]
  refine hK _ _ ?_
  clear hK K
  refine cw_assoc ?_
  refine cw_reg_postK (fun t h => t 1 = .fp [.fs 5 (List.map eComb h_.Combs), .fs 3 (List.map eTrain h_.Trains), .fs 3 (List.map eShift h_.Shifts), I h_.Until] 0 ∧ t 34 = B ((((!(r06_within h_.Until 1 100)) || (!(r06_within (List.length h_.Combs : Int) 1 8))) || (decide (12 < (List.length h_.Trains : Int)))) || (decide (20 < (List.length h_.Shifts : Int))))) (fun K hK => ?_) ?_
  · simp only [go_sem]
    refine icall_fn (k_r06_within h_.Until 1 100) ?_
    simp only [go_sem]
    refine ibr_intro (fun hg1 => ?_) (fun hg1 => ?_)
    · simp only [go_sem, hg1]
      exact hK _ _ ⟨(by first | (simp only [go_sem, hg1, List.length_append, List.map_append]; done) | rfl), (by first | (simp only [go_sem, hg1, List.length_append, List.map_append]; done) | rfl)⟩
    · simp only [go_sem, hg1]
      refine icall_fn (k_r06_within (List.length h_.Combs : Int) 1 8) ?_
      simp only [go_sem, hg1]
      refine ibr_intro (fun hg2 => ?_) (fun hg2 => ?_)
      · simp only [go_sem, hg1, hg2]
        exact hK _ _ ⟨(by first | (simp only [go_sem, hg1, hg2, List.length_append, List.map_append]; done) | rfl), (by first | (simp only [go_sem, hg1, hg2, List.length_append, List.map_append]; done) | rfl)⟩
      · simp only [go_sem, hg1, hg2]
        refine ibr_intro (fun hg3 => ?_) (fun hg3 => ?_)
        · simp only [go_sem, hg1, hg2, hg3]
          exact hK _ _ ⟨(by first | (simp only [go_sem, hg1, hg2, hg3, List.length_append, List.map_append]; done) | rfl), (by first | (simp only [go_sem, hg1, hg2, hg3, List.length_append, List.map_append]; done) | rfl)⟩
        · simp only [go_sem, hg1, hg2, hg3]
          exact hK _ _ ⟨(by first | (simp only [go_sem, hg1, hg2, hg3, List.length_append, List.map_append]; done) | rfl), (by first | (simp only [go_sem, hg1, hg2, hg3, List.length_append, List.map_append]; done) | rfl)⟩
  · rintro t h ⟨s1, s34⟩
    refine cw_seq_k fun K4 hK4 => ?_
    simp only [go_sem, s34]
    refine ibr_intro (fun hc5 => ?_) (fun hc5 => ?_)
    · rw [if_t hc5] at hm0
      refine cw_reg_seq fun K hK => ?_
      simp only [go_sem]
      refine hK _ _ ?_
      clear hK K
      simp only [cw_ret, qseq_ret, qblock_ret, retQ_ret]
      obtain rfl := Option.some.inj hm0
      exact done_t (by simp only [go_sem, List.length_append, List.map_append]) (frz_v _)
    · rw [if_f hc5] at hm0
      simp only [cw_skip, qblock_normal, qseq_normal]
      refine hK4 _ _ ?_
      refine cw_reg_seq fun K hK => ?_
      simp only [go_sem, s1]
      refine hK _ _ ?_
      clear hK K
      refine cw_assoc ?_
      refine cw_reg_seq fun K hK => ?_
      simp only [go_sem]
      refine hK _ _ ?_
      clear hK K
      refine cw_seq_k fun K6 hK6 => ?_
      have J7 : ∀ (t : Slots) (h : Heap), t 1 = .fp [.fs 5 (List.map eComb h_.Combs), .fs 3 (List.map eTrain h_.Trains), .fs 3 (List.map eShift h_.Shifts), I h_.Until] 0 → t 3 = I (List.length h_.Combs : Int) → r06_Check_j7 h_ = some r → K6 t h := by
        intro t h s1 s3 hm0
        refine hK6 _ _ ?_
        unfold r06_Check_j7 at hm0
        refine cw_assoc ?_
        refine cw_reg_seq fun K hK => ?_
        simp only [go_sem]
        refine hK _ _ ?_
        clear hK K
        refine cw_seq_k fun K8 hK8 => ?_
        have J9 : ∀ (t : Slots) (h : Heap), t 1 = .fp [.fs 5 (List.map eComb h_.Combs), .fs 3 (List.map eTrain h_.Trains), .fs 3 (List.map eShift h_.Shifts), I h_.Until] 0 → t 3 = I (List.length h_.Combs : Int) → r06_Check_j9 h_ = some r → K8 t h := by
          intro t h s1 s3 hm0
          refine hK8 _ _ ?_
          unfold r06_Check_j9 at hm0
          refine cw_assoc ?_
          refine cw_reg_seq fun K hK => ?_
          simp only [go_sem]
          refine hK _ _ ?_
          clear hK K
          refine cw_seq_k fun K10 hK10 => ?_
          have J11 : ∀ (t : Slots) (h : Heap), r06_Check_j11 = some r → K10 t h := by
            intro t h hm0
            refine hK10 _ _ ?_
            unfold r06_Check_j11 at hm0
            refine cw_reg_seq fun K hK => ?_
            simp only [go_sem]
            refine hK _ _ ?_
            clear hK K
            simp only [cw_ret, qseq_ret, qblock_ret, retQ_ret]
            obtain rfl := Option.some.inj hm0
            exact done_t (by simp only [go_sem, List.length_append, List.map_append]) (frz_v _)
          simp only [cw_block]
          obtain ⟨b12, hl12, hm0⟩ := bind_get hm0
          refine cw_loopM hl12 (fun | i_10, t, h => t 1 = .fp [.fs 5 (List.map eComb h_.Combs), .fs 3 (List.map eTrain h_.Trains), .fs 3 (List.map eShift h_.Shifts), I h_.Until] 0 ∧ t 3 = I (List.length h_.Combs : Int) ∧ t 10 = I i_10) ?_ ?_
          · exact ⟨s1, s3, (by first | (simp only [go_sem, List.length_append, List.map_append]; done) | rfl)⟩
          · rintro i_10 o t h ⟨s1, s3, s10⟩ hm1 hb12
            simp only [r06_Check_L32] at hm1
            rw [x_r06_Check_L32]
            refine cw_assoc ?_
            refine cw_reg_seq fun K hK => ?_
            simp only [go_sem, s1, s10]
            refine hK _ _ ?_
            clear hK K
            refine cw_seq_k fun K13 hK13 => ?_
            simp only [go_sem]
            refine ibr_intro (fun hc14 => ?_) (fun hc14 => ?_)
            · rw [if_t hc14] at hm1
              simp only [cw_skip, qblock_normal, qseq_normal]
              refine hK13 _ _ ?_
              refine cw_seq_k fun K15 hK15 => ?_
              simp only [cw_block]
              obtain ⟨x17, h_x17, hm1⟩ := bind_get hm1
              have h_x170 := get_nn h_x17
              have h_x171 := get_lt h_x17
              refine cw_reg_seq fun K hK => ?_
              simp only [go_sem, s1, s10, ielem_get h_x17, irow_get h_x17, h_x170, h_x171]
              refine hK _ _ ?_
              clear hK K
              obtain ⟨c23, h_c23, hm1⟩ := bind_get hm1
              refine cw_reg_postK (fun t h => t 1 = .fp [.fs 5 (List.map eComb h_.Combs), .fs 3 (List.map eTrain h_.Trains), .fs 3 (List.map eShift h_.Shifts), I h_.Until] 0 ∧ t 3 = I (List.length h_.Combs : Int) ∧ t 10 = I i_10 ∧ t 187 = B c23) (fun K hK => ?_) ?_
              · simp only [go_sem, s1, s3, s10]
                refine icall_fn (k_r06_within x17.At 0 (wr (h_.Until - 1))) ?_
                simp only [go_sem, s1, s3, s10]
                refine ibr_intro (fun hg24 => ?_) (fun hg24 => ?_)
                · simp only [hg24, Bool.not_true, Bool.not_false, eq_self, if_true, if_false, Bool.true_or, Bool.or_true, Bool.false_or, Bool.or_false, Bool.true_and, Bool.and_true, Bool.false_and, Bool.and_false, Bool.false_eq_true] at h_c23
                  obtain rfl := Option.some.inj h_c23
                  simp only [go_sem, s1, s3, s10, hg24]
                  exact hK _ _ ⟨s1, s3, s10, (by first | (simp only [go_sem, hg24, List.length_append, List.map_append]; done) | rfl)⟩
                · simp only [go_sem, s1, s3, s10, hg24]
                  refine icall_fn (k_r06_within x17.Comb 0 (wr ((List.length h_.Combs : Int) - 1))) ?_
                  simp only [go_sem, s1, s3, s10, hg24]
                  refine ibr_intro (fun hg25 => ?_) (fun hg25 => ?_)
                  · simp only [hg24, hg25, Bool.not_true, Bool.not_false, eq_self, if_true, if_false, Bool.true_or, Bool.or_true, Bool.false_or, Bool.or_false, Bool.true_and, Bool.and_true, Bool.false_and, Bool.and_false, Bool.false_eq_true] at h_c23
                    obtain rfl := Option.some.inj h_c23
                    simp only [go_sem, s1, s3, s10, hg24, hg25]
                    exact hK _ _ ⟨s1, s3, s10, (by first | (simp only [go_sem, hg24, hg25, List.length_append, List.map_append]; done) | rfl)⟩
                  · simp only [go_sem, s1, s3, s10, hg24, hg25]
                    refine icall_fn (k_r06_within x17.Rate 0 1000) ?_
                    simp only [go_sem, s1, s3, s10, hg24, hg25]
                    refine ibr_intro (fun hg26 => ?_) (fun hg26 => ?_)
                    · simp only [hg24, hg25, hg26, Bool.not_true, Bool.not_false, eq_self, if_true, if_false, Bool.true_or, Bool.or_true, Bool.false_or, Bool.or_false, Bool.true_and, Bool.and_true, Bool.false_and, Bool.and_false, Bool.false_eq_true] at h_c23
                      obtain rfl := Option.some.inj h_c23
                      simp only [go_sem, s1, s3, s10, hg24, hg25, hg26]
                      exact hK _ _ ⟨s1, s3, s10, (by first | (simp only [go_sem, hg24, hg25, hg26, List.length_append, List.map_append]; done) | rfl)⟩
                    · simp only [hg24, hg25, hg26, Bool.not_true, Bool.not_false, eq_self, if_true, if_false, Bool.true_or, Bool.or_true, Bool.false_or, Bool.or_false, Bool.true_and, Bool.and_true, Bool.false_and, Bool.and_false, Bool.false_eq_true] at h_c23
                      obtain ⟨c22, h_c22, h_c23⟩ := bind_get h_c23
                      obtain rfl := Option.some.inj h_c23
                      simp only [go_sem, s1, s3, s10, hg24, hg25, hg26]
                      refine ibr_intro (fun hg27 => ?_) (fun hg27 => ?_)
                      · simp only [hg24, hg25, hg26, hg27, Bool.not_true, Bool.not_false, eq_self, if_true, if_false, Bool.true_or, Bool.or_true, Bool.false_or, Bool.or_false, Bool.true_and, Bool.and_true, Bool.false_and, Bool.and_false, Bool.false_eq_true] at h_c22
                        obtain ⟨x21, h_x21, h_c22⟩ := bind_get h_c22
                        have h_x210 := get_nn h_x21
                        have h_x211 := get_lt h_x21
                        obtain rfl := Option.some.inj h_c22
                        simp only [go_sem, s1, s3, s10, ielem_get h_x21, irow_get h_x21, h_x210, h_x211, hg24, hg25, hg26, hg27]
                        exact hK _ _ ⟨s1, s3, s10, (by first | (simp only [go_sem, hg24, hg25, hg26, hg27, List.length_append, List.map_append]; done) | rfl)⟩
                      · simp only [hg24, hg25, hg26, hg27, Bool.not_true, Bool.not_false, eq_self, if_true, if_false, Bool.true_or, Bool.or_true, Bool.false_or, Bool.or_false, Bool.true_and, Bool.and_true, Bool.false_and, Bool.and_false, Bool.false_eq_true] at h_c22
                        obtain rfl := Option.some.inj h_c22
                        simp only [go_sem, s1, s3, s10, hg24, hg25, hg26, hg27]
                        exact hK _ _ ⟨s1, s3, s10, (by first | (simp only [go_sem, hg24, hg25, hg26, hg27, List.length_append, List.map_append]; done) | rfl)⟩
              · rintro t h ⟨s1, s3, s10, s187⟩
                simp only [go_sem, s187]
                refine ibr_intro (fun hc28 => ?_) (fun hc28 => ?_)
                · rw [if_t hc28] at hm1
                  refine cw_reg_seq fun K hK => ?_
                  simp only [go_sem]
                  refine hK _ _ ?_
                  clear hK K
                  simp only [cw_ret, qseq_ret, qblock_ret, retQ_ret]
                  obtain rfl := Option.some.inj hm1
                  obtain rfl := hb12 _ rfl
                  try dsimp only at hm0
                  obtain rfl := Option.some.inj hm0
                  exact done_t (by simp only [go_sem, List.length_append, List.map_append]) (frz_v _)
                · rw [if_f hc28] at hm1
                  simp only [cw_skip, qblock_normal, qseq_normal]
                  refine hK15 _ _ ?_
                  refine cw_reg_k fun K hK => ?_
                  simp only [go_sem, s10]
                  refine hK _ _ ?_
                  clear hK K
                  simp only [qblock_normal, qseq_normal]
                  obtain rfl := Option.some.inj hm1
                  refine ⟨_, rfl, ?_⟩
                  exact ⟨s1, s3, (by first | (simp only [go_sem, s10, List.length_append, List.map_append]; done) | rfl)⟩
            · rw [if_f hc14] at hm1
              simp only [cw_exit, qseq_exit, qblock_same, qblock_ne, qblock_normal, qseq_normal, Nat.reduceEqDiff, not_false_eq_true]
              obtain rfl := Option.some.inj hm1
              obtain rfl := hb12 _ rfl
              try dsimp only at hm0
              exact J11  _ _  hm0
        simp only [cw_block]
        obtain ⟨b30, hl30, hm0⟩ := bind_get hm0
        refine cw_loopM hl30 (fun | i_6, t, h => t 1 = .fp [.fs 5 (List.map eComb h_.Combs), .fs 3 (List.map eTrain h_.Trains), .fs 3 (List.map eShift h_.Shifts), I h_.Until] 0 ∧ t 3 = I (List.length h_.Combs : Int) ∧ t 6 = I i_6) ?_ ?_
        · exact ⟨s1, s3, (by first | (simp only [go_sem, List.length_append, List.map_append]; done) | rfl)⟩
        · rintro i_6 o t h ⟨s1, s3, s6⟩ hm1 hb30
          simp only [r06_Check_L25] at hm1
          rw [x_r06_Check_L25]
          refine cw_assoc ?_
          refine cw_reg_seq fun K hK => ?_
          simp only [go_sem, s1, s6]
          refine hK _ _ ?_
          clear hK K
          refine cw_seq_k fun K31 hK31 => ?_
          simp only [go_sem]
          refine ibr_intro (fun hc32 => ?_) (fun hc32 => ?_)
          · rw [if_t hc32] at hm1
            simp only [cw_skip, qblock_normal, qseq_normal]
            refine hK31 _ _ ?_
            refine cw_seq_k fun K33 hK33 => ?_
            have J34 : ∀ (t : Slots) (h : Heap), t 1 = .fp [.fs 5 (List.map eComb h_.Combs), .fs 3 (List.map eTrain h_.Trains), .fs 3 (List.map eShift h_.Shifts), I h_.Until] 0 → t 3 = I (List.length h_.Combs : Int) → t 6 = I i_6 → r06_Check_j34 i_6 = some o → K33 t h := by
              intro t h s1 s3 s6 hm1
              refine hK33 _ _ ?_
              unfold r06_Check_j34 at hm1
              refine cw_reg_k fun K hK => ?_
              simp only [go_sem, s6]
              refine hK _ _ ?_
              clear hK K
              simp only [qblock_normal, qseq_normal]
              obtain rfl := Option.some.inj hm1
              refine ⟨_, rfl, ?_⟩
              exact ⟨s1, s3, (by first | (simp only [go_sem, s6, List.length_append, List.map_append]; done) | rfl)⟩
            simp only [cw_block]
            obtain ⟨x36, h_x36, hm1⟩ := bind_get hm1
            have h_x360 := get_nn h_x36
            have h_x361 := get_lt h_x36
            refine cw_reg_seq fun K hK => ?_
            simp only [go_sem, s1, s6, ielem_get h_x36, irow_get h_x36, h_x360, h_x361]
            refine hK _ _ ?_
            clear hK K
            refine cw_assoc ?_
            refine cw_reg_postK (fun t h => ∃ i7 : Nat, t 1 = .fp [.fs 5 (List.map eComb h_.Combs), .fs 3 (List.map eTrain h_.Trains), .fs 3 (List.map eShift h_.Shifts), I h_.Until] 0 ∧ t 3 = I (List.length h_.Combs : Int) ∧ t 6 = I i_6 ∧ t 7 = .rp i7 0 0 ∧ t 103 = B ((!(r06_spanned x36.At 0 (wr (h_.Until - 1)))) || (decide (4 < (List.length x36.Crowds : Int)))) ∧ h.ob i7 = some (3, [[I x36.At.Low, I x36.At.High, .fs 3 (List.map eCrowd x36.Crowds)]]) ∧ i7 < h.nx) (fun K hK => ?_) ?_
            · simp only [go_sem, s1]
              refine icall_fn (k_r06_spanned x36.At 0 (wr (h_.Until - 1))) ?_
              simp only [go_sem, s1]
              refine ibr_intro (fun hg37 => ?_) (fun hg37 => ?_)
              · simp only [go_sem, s1, hg37]
                exact hK _ _ ⟨h.nx, s1, s3, s6, (by first | (simp only [go_sem, hg37, List.length_append, List.map_append]; done) | rfl), (by first | (simp only [go_sem, hg37, List.length_append, List.map_append]; done) | rfl), (by simp only [go_sem, hg37, List.length_append, List.map_append]), (by simp only [go_sem])⟩
              · simp only [go_sem, s1, hg37]
                exact hK _ _ ⟨h.nx, s1, s3, s6, (by first | (simp only [go_sem, hg37, List.length_append, List.map_append]; done) | rfl), (by first | (simp only [go_sem, hg37, List.length_append, List.map_append]; done) | rfl), (by simp only [go_sem, hg37, List.length_append, List.map_append]), (by simp only [go_sem])⟩
            · rintro t h ⟨i7, s1, s3, s6, s7, s103, ob_o7, lt_o7⟩
              refine cw_seq_k fun K38 hK38 => ?_
              simp only [go_sem, s103]
              refine ibr_intro (fun hc39 => ?_) (fun hc39 => ?_)
              · rw [if_t hc39] at hm1
                refine cw_reg_seq fun K hK => ?_
                simp only [go_sem, lt_o7]
                refine hK _ _ ?_
                clear hK K
                simp only [cw_ret, qseq_ret, qblock_ret, retQ_ret]
                obtain rfl := Option.some.inj hm1
                obtain rfl := hb30 _ rfl
                try dsimp only at hm0
                obtain rfl := Option.some.inj hm0
                exact done_t (by simp only [go_sem, ob_o7, lt_o7, List.length_append, List.map_append]) (frz_v _)
              · rw [if_f hc39] at hm1
                simp only [cw_skip, qblock_normal, qseq_normal]
                refine hK38 _ _ ?_
                refine cw_reg_seq fun K hK => ?_
                simp only [go_sem, lt_o7]
                refine hK _ _ ?_
                clear hK K
                refine cw_reg_seq fun K hK => ?_
                simp only [go_sem, lt_o7]
                refine hK _ _ ?_
                clear hK K
                simp only [cw_block]
                obtain ⟨b40, hl40, hm1⟩ := bind_get hm1
                refine cw_loopM hl40 (fun | (last_8, k_9), t, h => t 1 = .fp [.fs 5 (List.map eComb h_.Combs), .fs 3 (List.map eTrain h_.Trains), .fs 3 (List.map eShift h_.Shifts), I h_.Until] 0 ∧ t 3 = I (List.length h_.Combs : Int) ∧ t 6 = I i_6 ∧ t 7 = .rp i7 0 0 ∧ t 8 = I last_8 ∧ t 9 = I k_9 ∧ h.ob i7 = some (3, [[I x36.At.Low, I x36.At.High, .fs 3 (List.map eCrowd x36.Crowds)]]) ∧ i7 < h.nx) ?_ ?_
                · exact ⟨s1, s3, s6, s7, (by first | (simp only [go_sem, List.length_append, List.map_append]; done) | rfl), (by first | (simp only [go_sem, List.length_append, List.map_append]; done) | rfl), ob_o7, lt_o7⟩
                · rintro ⟨last_8, k_9⟩ o t h ⟨s1, s3, s6, s7, s8, s9, ob_o7, lt_o7⟩ hm2 hb40
                  simp only [r06_Check_L23] at hm2
                  rw [x_r06_Check_L23]
                  refine cw_assoc ?_
                  refine cw_reg_seq fun K hK => ?_
                  simp only [go_sem, s7, s9, ob_o7, lt_o7]
                  refine hK _ _ ?_
                  clear hK K
                  refine cw_seq_k fun K41 hK41 => ?_
                  simp only [go_sem]
                  refine ibr_intro (fun hc42 => ?_) (fun hc42 => ?_)
                  · rw [if_t hc42] at hm2
                    simp only [cw_skip, qblock_normal, qseq_normal]
                    refine hK41 _ _ ?_
                    refine cw_seq_k fun K43 hK43 => ?_
                    simp only [cw_block]
                    refine cw_assoc ?_
                    obtain ⟨x45, h_x45, hm2⟩ := bind_get hm2
                    have h_x450 := get_nn h_x45
                    have h_x451 := get_lt h_x45
                    refine cw_reg_postK (fun t h => t 1 = .fp [.fs 5 (List.map eComb h_.Combs), .fs 3 (List.map eTrain h_.Trains), .fs 3 (List.map eShift h_.Shifts), I h_.Until] 0 ∧ t 3 = I (List.length h_.Combs : Int) ∧ t 6 = I i_6 ∧ t 7 = .rp i7 0 0 ∧ t 9 = I k_9 ∧ t 132 = B ((!(r06_within x45.Comb (wr (last_8 + 1)) (wr ((List.length h_.Combs : Int) - 1)))) || (!(r06_spanned x45.People 0 1000))) ∧ h.ob i7 = some (3, [[I x36.At.Low, I x36.At.High, .fs 3 (List.map eCrowd x36.Crowds)]]) ∧ i7 < h.nx) (fun K hK => ?_) ?_
                    · simp only [go_sem, s3, s7, s8, s9, ob_o7, lt_o7, ielem_get h_x45, irow_get h_x45, h_x450, h_x451]
                      refine icall_fn (k_r06_within x45.Comb (wr (last_8 + 1)) (wr ((List.length h_.Combs : Int) - 1))) ?_
                      simp only [go_sem, s3, s7, s8, s9, ob_o7, lt_o7, ielem_get h_x45, irow_get h_x45, h_x450, h_x451]
                      refine ibr_intro (fun hg46 => ?_) (fun hg46 => ?_)
                      · simp only [go_sem, s3, s7, s8, s9, ob_o7, lt_o7, ielem_get h_x45, irow_get h_x45, h_x450, h_x451, hg46]
                        exact hK _ _ ⟨s1, s3, s6, s7, s9, (by first | (simp only [go_sem, hg46, List.length_append, List.map_append]; done) | rfl), ob_o7, lt_o7⟩
                      · simp only [go_sem, s3, s7, s8, s9, ob_o7, lt_o7, ielem_get h_x45, irow_get h_x45, h_x450, h_x451, hg46]
                        refine icall_fn (k_r06_spanned x45.People 0 1000) ?_
                        simp only [go_sem, s3, s7, s8, s9, ob_o7, lt_o7, ielem_get h_x45, irow_get h_x45, h_x450, h_x451, hg46]
                        exact hK _ _ ⟨s1, s3, s6, s7, s9, (by first | (simp only [go_sem, hg46, List.length_append, List.map_append]; done) | rfl), ob_o7, lt_o7⟩
                    · rintro t h ⟨s1, s3, s6, s7, s9, s132, ob_o7, lt_o7⟩
                      refine cw_seq_k fun K47 hK47 => ?_
                      simp only [go_sem, s132]
                      refine ibr_intro (fun hc48 => ?_) (fun hc48 => ?_)
                      · rw [if_t hc48] at hm2
                        refine cw_reg_seq fun K hK => ?_
                        simp only [go_sem, lt_o7]
                        refine hK _ _ ?_
                        clear hK K
                        simp only [cw_ret, qseq_ret, qblock_ret, retQ_ret]
                        obtain rfl := Option.some.inj hm2
                        obtain rfl := hb40 _ rfl
                        try dsimp only at hm1
                        obtain rfl := Option.some.inj hm1
                        obtain rfl := hb30 _ rfl
                        try dsimp only at hm0
                        obtain rfl := Option.some.inj hm0
                        exact done_t (by simp only [go_sem, ob_o7, lt_o7, List.length_append, List.map_append]) (frz_v _)
                      · rw [if_f hc48] at hm2
                        simp only [cw_skip, qblock_normal, qseq_normal]
                        refine hK47 _ _ ?_
                        refine cw_reg_k fun K hK => ?_
                        simp only [go_sem, s7, s9, ob_o7, lt_o7, ielem_get h_x45, irow_get h_x45, h_x450, h_x451]
                        refine hK _ _ ?_
                        clear hK K
                        simp only [qblock_normal, qseq_normal]
                        refine hK43 _ _ ?_
                        refine cw_reg_k fun K hK => ?_
                        simp only [go_sem, s9, lt_o7]
                        refine hK _ _ ?_
                        clear hK K
                        simp only [qblock_normal, qseq_normal]
                        obtain rfl := Option.some.inj hm2
                        refine ⟨_, rfl, ?_⟩
                        exact ⟨s1, s3, s6, s7, (by first | (simp only [go_sem, List.length_append, List.map_append]; done) | rfl), (by first | (simp only [go_sem, s9, List.length_append, List.map_append]; done) | rfl), ob_o7, lt_o7⟩
                  · rw [if_f hc42] at hm2
                    simp only [cw_exit, qseq_exit, qblock_same, qblock_ne, qblock_normal, qseq_normal, Nat.reduceEqDiff, not_false_eq_true]
                    obtain rfl := Option.some.inj hm2
                    obtain rfl := hb40 _ rfl
                    try dsimp only at hm1
                    exact J34  _ _ s1 s3 s6 hm1
          · rw [if_f hc32] at hm1
            simp only [cw_exit, qseq_exit, qblock_same, qblock_ne, qblock_normal, qseq_normal, Nat.reduceEqDiff, not_false_eq_true]
            obtain rfl := Option.some.inj hm1
            obtain rfl := hb30 _ rfl
            try dsimp only at hm0
            exact J9  _ _ s1 s3 hm0
      simp only [cw_block]
      obtain ⟨b51, hl51, hm0⟩ := bind_get hm0
      refine cw_loopM hl51 (fun | i_4, t, h => t 1 = .fp [.fs 5 (List.map eComb h_.Combs), .fs 3 (List.map eTrain h_.Trains), .fs 3 (List.map eShift h_.Shifts), I h_.Until] 0 ∧ t 3 = I (List.length h_.Combs : Int) ∧ t 4 = I i_4) ?_ ?_
      · exact ⟨s1, (by first | (simp only [go_sem, List.length_append, List.map_append]; done) | rfl), (by first | (simp only [go_sem, List.length_append, List.map_append]; done) | rfl)⟩
      · rintro i_4 o t h ⟨s1, s3, s4⟩ hm1 hb51
        simp only [r06_Check_L10] at hm1
        rw [x_r06_Check_L10]
        refine cw_assoc ?_
        refine cw_reg_seq fun K hK => ?_
        simp only [go_sem, s3, s4]
        refine hK _ _ ?_
        clear hK K
        refine cw_seq_k fun K52 hK52 => ?_
        simp only [go_sem]
        refine ibr_intro (fun hc53 => ?_) (fun hc53 => ?_)
        · rw [if_t hc53] at hm1
          simp only [cw_skip, qblock_normal, qseq_normal]
          refine hK52 _ _ ?_
          refine cw_seq_k fun K54 hK54 => ?_
          simp only [cw_block]
          obtain ⟨x56, h_x56, hm1⟩ := bind_get hm1
          have h_x560 := get_nn h_x56
          have h_x561 := get_lt h_x56
          refine cw_reg_seq fun K hK => ?_
          simp only [go_sem, s1, s4, ielem_get h_x56, irow_get h_x56, h_x560, h_x561]
          refine hK _ _ ?_
          clear hK K
          refine cw_reg_postK (fun t h => t 1 = .fp [.fs 5 (List.map eComb h_.Combs), .fs 3 (List.map eTrain h_.Trains), .fs 3 (List.map eShift h_.Shifts), I h_.Until] 0 ∧ t 3 = I (List.length h_.Combs : Int) ∧ t 4 = I i_4 ∧ t 78 = B ((((!(r06_within x56.Rate 0 1000)) || (!(r06_within x56.Limit 0 100000))) || ((decide (¬x56.Next = (-1))) && (!(r06_within x56.Next (wr (i_4 + 1)) (wr ((List.length h_.Combs : Int) - 1)))))) || (!(r06_spanned x56.Walk 1 20)))) (fun K hK => ?_) ?_
          · simp only [go_sem, s3, s4]
            refine icall_fn (k_r06_within x56.Rate 0 1000) ?_
            simp only [go_sem, s3, s4]
            refine ibr_intro (fun hg57 => ?_) (fun hg57 => ?_)
            · simp only [go_sem, s3, s4, hg57]
              exact hK _ _ ⟨s1, s3, s4, (by first | (simp only [go_sem, hg57, List.length_append, List.map_append]; done) | rfl)⟩
            · simp only [go_sem, s3, s4, hg57]
              refine icall_fn (k_r06_within x56.Limit 0 100000) ?_
              simp only [go_sem, s3, s4, hg57]
              refine ibr_intro (fun hg58 => ?_) (fun hg58 => ?_)
              · simp only [go_sem, s3, s4, hg57, hg58]
                exact hK _ _ ⟨s1, s3, s4, (by first | (simp only [go_sem, hg57, hg58, List.length_append, List.map_append]; done) | rfl)⟩
              · simp only [go_sem, s3, s4, hg57, hg58]
                refine ibr_intro (fun hg59 => ?_) (fun hg59 => ?_)
                · simp only [go_sem, s3, s4, hg57, hg58, hg59]
                  refine icall_fn (k_r06_within x56.Next (wr (i_4 + 1)) (wr ((List.length h_.Combs : Int) - 1))) ?_
                  simp only [go_sem, s3, s4, hg57, hg58, hg59]
                  refine ibr_intro (fun hg60 => ?_) (fun hg60 => ?_)
                  · simp only [go_sem, s3, s4, hg57, hg58, hg59, hg60]
                    exact hK _ _ ⟨s1, s3, s4, (by first | (simp only [go_sem, hg57, hg58, hg59, hg60, List.length_append, List.map_append]; done) | rfl)⟩
                  · simp only [go_sem, s3, s4, hg57, hg58, hg59, hg60]
                    refine icall_fn (k_r06_spanned x56.Walk 1 20) ?_
                    simp only [go_sem, s3, s4, hg57, hg58, hg59, hg60]
                    exact hK _ _ ⟨s1, s3, s4, (by first | (simp only [go_sem, hg57, hg58, hg59, hg60, List.length_append, List.map_append]; done) | rfl)⟩
                · simp only [go_sem, s3, s4, hg57, hg58, hg59]
                  refine icall_fn (k_r06_spanned x56.Walk 1 20) ?_
                  simp only [go_sem, s3, s4, hg57, hg58, hg59]
                  exact hK _ _ ⟨s1, s3, s4, (by first | (simp only [go_sem, hg57, hg58, hg59, List.length_append, List.map_append]; done) | rfl)⟩
          · rintro t h ⟨s1, s3, s4, s78⟩
            simp only [go_sem, s78]
            refine ibr_intro (fun hc61 => ?_) (fun hc61 => ?_)
            · rw [if_t hc61] at hm1
              refine cw_reg_seq fun K hK => ?_
              simp only [go_sem]
              refine hK _ _ ?_
              clear hK K
              simp only [cw_ret, qseq_ret, qblock_ret, retQ_ret]
              obtain rfl := Option.some.inj hm1
              obtain rfl := hb51 _ rfl
              try dsimp only at hm0
              obtain rfl := Option.some.inj hm0
              exact done_t (by simp only [go_sem, List.length_append, List.map_append]) (frz_v _)
            · rw [if_f hc61] at hm1
              simp only [cw_skip, qblock_normal, qseq_normal]
              refine hK54 _ _ ?_
              refine cw_reg_k fun K hK => ?_
              simp only [go_sem, s4]
              refine hK _ _ ?_
              clear hK K
              simp only [qblock_normal, qseq_normal]
              obtain rfl := Option.some.inj hm1
              refine ⟨_, rfl, ?_⟩
              exact ⟨s1, s3, (by first | (simp only [go_sem, s4, List.length_append, List.map_append]; done) | rfl)⟩
        · rw [if_f hc53] at hm1
          simp only [cw_exit, qseq_exit, qblock_same, qblock_ne, qblock_normal, qseq_normal, Nat.reduceEqDiff, not_false_eq_true]
          obtain rfl := Option.some.inj hm1
          obtain rfl := hb51 _ rfl
          try dsimp only at hm0
          exact J7  _ _ s1 s3 hm0

end Go.Nw.HM

namespace Go.Nw.HM
open Go.Nw.Halls
set_option linter.unusedSimpArgs false
set_option linter.unusedVariables false
set_option maxHeartbeats 4000000
variable {O : Orac}

theorem k_r06_Shut (hf : Has O "newel/newelref06.Shut" x_r06_Shut) (k_r06_rates : C_r06_rates O) : C_r06_Shut O := by
  intro h_ c from_ ticks r hm0
  unfold r06_Shut at hm0
  refine fn_cw hf rfl (fz_cons (.agg _ (fz_cons (frz_fs fun a _ => fz_eComb a) (fz_cons (frz_fs fun a _ => fz_eTrain a) (fz_cons (frz_fs fun a _ => fz_eShift a) (fz_cons (frz_v _) fz_nil))))) (fz_cons (frz_v _) (fz_cons (frz_v _) (fz_cons (frz_v _) fz_nil)))) (.agg _ (fz_cons (frz_fs fun a _ => fz_eComb a) (fz_cons (frz_fs fun a _ => fz_eTrain a) (fz_cons (frz_fs fun a _ => fz_eShift a) (fz_cons (frz_v _) fz_nil))))) ?_
  refine cw_start (fun t h => t 0 = .agg [.fs 5 (List.map eComb h_.Combs), .fs 3 (List.map eTrain h_.Trains), .fs 3 (List.map eShift h_.Shifts), I h_.Until] ∧ t 1 = I c ∧ t 2 = I from_ ∧ t 3 = I ticks) ⟨rfl, rfl, rfl, rfl⟩ fun t h ⟨s0, s1, s2, s3⟩ => ?_
  simp only [x_r06_Shut]
  refine cw_reg_seq fun K hK => ?_
  simp only [go_sem, s0]
  refine hK _ _ ?_
  clear hK K
  refine cw_assoc ?_
  refine cw_reg_seq fun K hK => ?_
  simp only [go_sem, s3]
  refine hK _ _ ?_
  clear hK K
  refine cw_seq_k fun K1 hK1 => ?_
  simp only [go_sem]
  refine ibr_intro (fun hc2 => ?_) (fun hc2 => ?_)
  · rw [if_t hc2] at hm0
    refine cw_reg_seq fun K hK => ?_
    simp only [go_sem]
    refine hK _ _ ?_
    clear hK K
    simp only [cw_ret, qseq_ret, qblock_ret, retQ_ret]
    obtain rfl := Option.some.inj hm0
    exact done_cell (id := h.nx) (m := 4) (cs := [.fs 5 (List.map eComb h_.Combs), .fs 3 (List.map eTrain h_.Trains), .fs 3 (List.map eShift h_.Shifts), I h_.Until]) (by simp only [go_sem, List.length_append, List.map_append]) (by simp only [go_sem, List.length_append, List.map_append]) rfl (.refl _ (.agg _ (fz_cons (frz_fs fun a _ => fz_eComb a) (fz_cons (frz_fs fun a _ => fz_eTrain a) (fz_cons (frz_fs fun a _ => fz_eShift a) (fz_cons (frz_v _) fz_nil))))))
  · rw [if_f hc2] at hm0
    simp only [cw_skip, qblock_normal, qseq_normal]
    refine hK1 _ _ ?_
    obtain ⟨y4, h_y4, hm0⟩ := bind_get hm0
    refine cw_reg_seq fun K hK => ?_
    simp only [go_sem, s1]
    refine icall_fn (k_r06_rates h_ c _ h_y4) ?_
    simp only [go_sem, s1]
    refine hK _ _ ?_
    clear hK K
    refine cw_reg_seq fun K hK => ?_
    simp only [go_sem, s2, s3]
    refine hK _ _ ?_
    clear hK K
    refine cw_reg_seq fun K hK => ?_
    simp only [go_sem]
    refine hK _ _ ?_
    clear hK K
    refine cw_assoc ?_
    refine cw_reg_seq fun K hK => ?_
    simp only [go_sem]
    refine hK _ _ ?_
    clear hK K
    refine cw_seq_k fun K5 hK5 => ?_
    have J6 : ∀ (l_11 : List Shift) (i8 : Nat) (v11 : AV) (t : Slots) (h : Heap), t 1 = I c → t 2 = I from_ → t 4 = .fp [.fs 5 (List.map eComb h_.Combs), .fs 3 (List.map eTrain h_.Trains), .fs 3 (List.map eShift h_.Shifts), I h_.Until] 0 → t 8 = .rp i8 0 0 → t 9 = .fs 1 (List.map eI y4) → t 10 = I (wr (from_ + ticks)) → t 11 = v11 → h.ob i8 = some (4, [[.v (.slice none 0 0), .v (.slice none 0 0), .v (.slice none 0 0), I 0]]) → i8 < h.nx → OwnS h v11 3 (List.map eShift l_11) → NotId v11 i8 → r06_Shut_j6 h_ c from_ ticks y4 l_11 = some r → K5 t h := by
      intro l_11 i8 v11 t h s1 s2 s4 s8 s9 s10 s11 ob_o8 lt_o8 ow_o11 ni_o8_o11 hm0
      refine hK5 _ _ ?_
      unfold r06_Shut_j6 at hm0
      obtain ⟨l8, h_l8, hm0⟩ := bind_get hm0
      refine cw_reg_seq fun K hK => ?_
      simp only [go_sem, s1, s2, s11, lt_o8, ni_o8_o11, istr_of v11]
      refine iapp_own (f := eShift) (l := l_11) (m := ([(Shift.mk from_ c 0)])) ?_ ?_ ?_ ?_ h_l8 ?_
      · exact (own_later ow_o11 (by intro j hj hl; first | rfl | simp only [go_sem, hl, own_ne hj ni_o8_o11]) (by first | omega | exact Nat.le_refl _ | (simp only [go_sem, nxs] <;> omega)))
      · exact (ownx_rs (by simp only [go_sem, ob_o8, lt_o8, own_late ow_o11, ni_o8_o11, List.length_append, List.map_append]) (by simp only [go_sem, ob_o8, lt_o8, own_late ow_o11, ni_o8_o11, List.length_append, List.map_append]))
      · exact (nd_rs (by first | exact notid_nil | exact notid_rs (by first | omega | (simp only [nxs] <;> omega)) | assumption | exact own_notid (by assumption) (by first | omega | (simp only [go_sem, nxs] <;> omega))))
      · exact (fun _ => by simp)
      simp only [go_sem, s1, s2, s11, lt_o8, ni_o8_o11, istr_of v11]
      refine hK _ _ ?_
      clear hK K
      refine cw_assoc ?_
      refine cw_reg_seq fun K hK => ?_
      simp only [go_sem, lt_o8, istr_of v11]
      refine hK _ _ ?_
      clear hK K
      refine cw_seq_k fun K9 hK9 => ?_
      have J10 : ∀ (l_11_1 : List Shift) (i11 : Nat) (t : Slots) (h : Heap), t 1 = I c → t 4 = .fp [.fs 5 (List.map eComb h_.Combs), .fs 3 (List.map eTrain h_.Trains), .fs 3 (List.map eShift h_.Shifts), I h_.Until] 0 → t 8 = .rp i8 0 0 → t 9 = .fs 1 (List.map eI y4) → t 10 = I (wr (from_ + ticks)) → t 11 = .rs i11 0 (List.length l_11_1) → h.ob i8 = some (4, [[.v (.slice none 0 0), .v (.slice none 0 0), .v (.slice none 0 0), I 0]]) → i8 < h.nx → h.ob i11 = some (3, List.map eShift l_11_1) → i11 < h.nx → ¬i8 = i11 → r06_Shut_j10 h_ c from_ ticks y4 l_11_1 = some r → K9 t h := by
        try clear s1 s2 s4 s8 s9 s10 s11 ob_o8 lt_o8 ow_o11 ni_o8_o11
        intro l_11_1 i11 t h s1 s4 s8 s9 s10 s11 ob_o8 lt_o8 ob_o11 lt_o11 ne_o8_o11 hm0
        refine hK9 _ _ ?_
        unfold r06_Shut_j10 at hm0
        refine cw_assoc ?_
        refine cw_reg_seq fun K hK => ?_
        simp only [go_sem, s4, s10, lt_o8, lt_o11, istr_of v11]
        refine hK _ _ ?_
        clear hK K
        refine cw_seq_k fun K11 hK11 => ?_
        have J12 : ∀ (l_11_2 : List Shift) (i11_1 : Nat) (t : Slots) (h : Heap), t 4 = .fp [.fs 5 (List.map eComb h_.Combs), .fs 3 (List.map eTrain h_.Trains), .fs 3 (List.map eShift h_.Shifts), I h_.Until] 0 → t 8 = .rp i8 0 0 → t 10 = I (wr (from_ + ticks)) → t 11 = .rs i11_1 0 (List.length l_11_2) → h.ob i8 = some (4, [[.v (.slice none 0 0), .v (.slice none 0 0), .v (.slice none 0 0), I 0]]) → i8 < h.nx → h.ob i11_1 = some (3, List.map eShift l_11_2) → i11_1 < h.nx → ¬i8 = i11_1 → r06_Shut_j12 h_ from_ ticks l_11_2 = some r → K11 t h := by
          try clear s1 s4 s8 s9 s10 s11 ob_o8 lt_o8 ob_o11 lt_o11 ne_o8_o11
          intro l_11_2 i11_1 t h s4 s8 s10 s11 ob_o8 lt_o8 ob_o11 lt_o11 ne_o8_o11 hm0
          refine hK11 _ _ ?_
          unfold r06_Shut_j12 at hm0
          refine cw_assoc ?_
          refine cw_reg_seq fun K hK => ?_
          simp only [go_sem, lt_o8, lt_o11, istr_of v11]
          refine hK _ _ ?_
          clear hK K
          refine cw_seq_k fun K13 hK13 => ?_
          have J14 : ∀ (l_11_3 : List Shift) (i11_2 : Nat) (t : Slots) (h : Heap), t 4 = .fp [.fs 5 (List.map eComb h_.Combs), .fs 3 (List.map eTrain h_.Trains), .fs 3 (List.map eShift h_.Shifts), I h_.Until] 0 → t 8 = .rp i8 0 0 → t 11 = .rs i11_2 0 (List.length l_11_3) → h.ob i8 = some (4, [[.v (.slice none 0 0), .v (.slice none 0 0), .v (.slice none 0 0), I 0]]) → i8 < h.nx → h.ob i11_2 = some (3, List.map eShift l_11_3) → i11_2 < h.nx → ¬i8 = i11_2 → r06_Shut_j14 h_ l_11_3 = some r → K13 t h := by
            try clear s4 s8 s10 s11 ob_o8 lt_o8 ob_o11 lt_o11 ne_o8_o11
            intro l_11_3 i11_2 t h s4 s8 s11 ob_o8 lt_o8 ob_o11 lt_o11 ne_o8_o11 hm0
            refine hK13 _ _ ?_
            unfold r06_Shut_j14 at hm0
            refine cw_reg_seq fun K hK => ?_
            simp only [go_sem, s4, lt_o8, lt_o11, istr_of v11]
            refine hK _ _ ?_
            clear hK K
            refine cw_reg_seq fun K hK => ?_
            simp only [go_sem, s11, ob_o11, lt_o11, lt_o8, ne_o8_o11, nsym ne_o8_o11, istr_of v11]
            refine hK _ _ ?_
            clear hK K
            refine cw_reg_seq fun K hK => ?_
            simp only [go_sem, s8, ob_o8, lt_o8, ob_o11, lt_o11, ne_o8_o11, nsym ne_o8_o11, istr_of v11]
            refine hK _ _ ?_
            clear hK K
            simp only [cw_ret, qseq_ret, qblock_ret, retQ_ret]
            obtain rfl := Option.some.inj hm0
            exact done_cell (id := i8) (m := 4) (cs := [.fs 5 (List.map eComb h_.Combs), .fs 3 (List.map eTrain h_.Trains), .rs i11_2 0 (List.length l_11_3), I h_.Until]) (by simp only [go_sem, s8, ob_o8, lt_o8, ob_o11, lt_o11, ne_o8_o11, nsym ne_o8_o11, List.length_append, List.map_append]) (by simp only [go_sem, s8, ob_o8, lt_o8, ob_o11, lt_o11, ne_o8_o11, nsym ne_o8_o11, List.length_append, List.map_append]) rfl (fz_agg (.cons (.refl _ (frz_fs fun a _ => fz_eComb a)) (.cons (.refl _ (frz_fs fun a _ => fz_eTrain a)) (.cons (fz_rs (f := eShift) (l := l_11_3) (id := i11_2) (by simp only [go_sem, ob_o8, lt_o8, ob_o11, lt_o11, ne_o8_o11, nsym ne_o8_o11, List.length_append, List.map_append]) (by first | rfl | simp only [go_sem, List.length_append, List.map_append]) fz_eShift ln_eShift) (.cons (.refl _ (frz_v _)) (.nil))))))
          simp only [cw_block]
          obtain ⟨b15, hl15, hm0⟩ := bind_get hm0
          refine cw_loopM hl15 (fun | (l_11_3, i_15), t, h => ∃ i11_2 : Nat, t 4 = .fp [.fs 5 (List.map eComb h_.Combs), .fs 3 (List.map eTrain h_.Trains), .fs 3 (List.map eShift h_.Shifts), I h_.Until] 0 ∧ t 8 = .rp i8 0 0 ∧ t 10 = I (wr (from_ + ticks)) ∧ t 11 = .rs i11_2 0 (List.length l_11_3) ∧ t 15 = I i_15 ∧ h.ob i8 = some (4, [[.v (.slice none 0 0), .v (.slice none 0 0), .v (.slice none 0 0), I 0]]) ∧ i8 < h.nx ∧ h.ob i11_2 = some (3, List.map eShift l_11_3) ∧ i11_2 < h.nx ∧ ¬i8 = i11_2) ?_ ?_
          · exact ⟨i11_1, s4, s8, s10, (by first | exact s11 | simp only [go_sem, s11, List.length_append, List.map_append]), (by first | (simp only [go_sem, List.length_append, List.map_append]; done) | rfl), ob_o8, lt_o8, ob_o11, lt_o11, ne_o8_o11⟩
          · try clear s4 s8 s10 s11 ob_o8 lt_o8 ob_o11 lt_o11 ne_o8_o11
            rintro ⟨l_11_3, i_15⟩ o t h ⟨i11_2, s4, s8, s10, s11, s15, ob_o8, lt_o8, ob_o11, lt_o11, ne_o8_o11⟩ hm1 hb15
            simp only [r06_Shut_L26] at hm1
            rw [x_r06_Shut_L26]
            refine cw_assoc ?_
            refine cw_reg_seq fun K hK => ?_
            simp only [go_sem, s4, s15, lt_o8, lt_o11, istr_of v11]
            refine hK _ _ ?_
            clear hK K
            refine cw_seq_k fun K16 hK16 => ?_
            simp only [go_sem]
            refine ibr_intro (fun hc17 => ?_) (fun hc17 => ?_)
            · rw [if_t hc17] at hm1
              simp only [cw_skip, qblock_normal, qseq_normal]
              refine hK16 _ _ ?_
              refine cw_seq_k fun K18 hK18 => ?_
              have J19 : ∀ (l_11_4 : List Shift) (i11_3 : Nat) (t : Slots) (h : Heap), t 4 = .fp [.fs 5 (List.map eComb h_.Combs), .fs 3 (List.map eTrain h_.Trains), .fs 3 (List.map eShift h_.Shifts), I h_.Until] 0 → t 8 = .rp i8 0 0 → t 10 = I (wr (from_ + ticks)) → t 11 = .rs i11_3 0 (List.length l_11_4) → t 15 = I i_15 → h.ob i8 = some (4, [[.v (.slice none 0 0), .v (.slice none 0 0), .v (.slice none 0 0), I 0]]) → i8 < h.nx → h.ob i11_3 = some (3, List.map eShift l_11_4) → i11_3 < h.nx → ¬i8 = i11_3 → r06_Shut_j19 i_15 l_11_4 = some o → K18 t h := by
                try clear s4 s8 s10 s11 s15 ob_o8 lt_o8 ob_o11 lt_o11 ne_o8_o11
                intro l_11_4 i11_3 t h s4 s8 s10 s11 s15 ob_o8 lt_o8 ob_o11 lt_o11 ne_o8_o11 hm1
                refine hK18 _ _ ?_
                unfold r06_Shut_j19 at hm1
                refine cw_reg_k fun K hK => ?_
                simp only [go_sem, s15, lt_o8, lt_o11, istr_of v11]
                refine hK _ _ ?_
                clear hK K
                simp only [qblock_normal, qseq_normal]
                obtain rfl := Option.some.inj hm1
                refine ⟨_, rfl, ?_⟩
                exact ⟨i11_3, s4, s8, s10, (by first | exact s11 | simp only [go_sem, s11, List.length_append, List.map_append]), (by first | (simp only [go_sem, s15, List.length_append, List.map_append]; done) | rfl), ob_o8, lt_o8, ob_o11, lt_o11, ne_o8_o11⟩
              simp only [cw_block]
              obtain ⟨x21, h_x21, hm1⟩ := bind_get hm1
              have h_x210 := get_nn h_x21
              have h_x211 := get_lt h_x21
              refine cw_reg_seq fun K hK => ?_
              simp only [go_sem, s4, s10, s15, lt_o8, lt_o11, ielem_get h_x21, irow_get h_x21, h_x210, h_x211, istr_of v11]
              refine hK _ _ ?_
              clear hK K
              simp only [go_sem]
              refine ibr_intro (fun hc22 => ?_) (fun hc22 => ?_)
              · rw [if_t hc22] at hm1
                obtain ⟨l24, h_l24, hm1⟩ := bind_get hm1
                refine cw_reg_k fun K hK => ?_
                simp only [go_sem, s4, s11, s15, ob_o11, lt_o11, lt_o8, ne_o8_o11, nsym ne_o8_o11, ielem_get h_x21, irow_get h_x21, h_x210, h_x211, istr_of v11]
                refine iapp_own (f := eShift) (l := l_11_3) (m := ([x21])) ?_ ?_ ?_ ?_ h_l24 ?_
                · exact (own_rs (by simp only [go_sem, ob_o8, lt_o8, ob_o11, lt_o11, ne_o8_o11, nsym ne_o8_o11, List.length_append, List.map_append]) (by simp only [go_sem, ob_o8, lt_o8, ob_o11, lt_o11, ne_o8_o11, nsym ne_o8_o11, List.length_append, List.map_append]) (by simp only [go_sem, lt_o8, lt_o11]))
                · exact (ownx_rs (by simp only [go_sem, ob_o8, lt_o8, ob_o11, lt_o11, ne_o8_o11, nsym ne_o8_o11, List.length_append, List.map_append]) (by simp only [go_sem, ob_o8, lt_o8, ob_o11, lt_o11, ne_o8_o11, nsym ne_o8_o11, List.length_append, List.map_append]))
                · exact (nd_rs (by first | exact notid_nil | exact notid_rs (by first | omega | (simp only [nxs] <;> omega)) | assumption | exact own_notid (by assumption) (by first | omega | (simp only [go_sem, nxs] <;> omega))))
                · exact (fun _ => by simp)
                simp only [go_sem, s4, s11, s15, ob_o11, lt_o11, lt_o8, ne_o8_o11, nsym ne_o8_o11, ielem_get h_x21, irow_get h_x21, h_x210, h_x211, istr_of v11]
                refine hK _ _ ?_
                clear hK K
                simp only [qblock_normal, qseq_normal]
                exact J19 l24 (nxs h.nx) _ _ s4 s8 s10 (by first | (simp only [go_sem, s11, List.length_append, List.map_append]; done) | rfl) s15 (by simp only [go_sem, ob_o8, lt_o8, lt_o11, ne_o8_o11, nsym ne_o8_o11, List.length_append, List.map_append]) (by simp only [go_sem, lt_o8]) (by simp only [go_sem, lt_o11, List.length_append, List.map_append]) (by simp only [go_sem]) (by first | first | assumption | omega | (simp only [nxs] <;> omega)) hm1
              · rw [if_f hc22] at hm1
                simp only [cw_skip, qblock_normal, qseq_normal]
                exact J19 l_11_3 i11_2 _ _ s4 s8 s10 (by first | exact s11 | simp only [go_sem, s11, List.length_append, List.map_append]) s15 ob_o8 lt_o8 ob_o11 lt_o11 ne_o8_o11 hm1
            · rw [if_f hc17] at hm1
              simp only [cw_exit, qseq_exit, qblock_same, qblock_ne, qblock_normal, qseq_normal, Nat.reduceEqDiff, not_false_eq_true]
              obtain rfl := Option.some.inj hm1
              obtain rfl := hb15 _ rfl
              try dsimp only at hm0
              exact J14 l_11_3 i11_2 _ _ s4 s8 (by first | exact s11 | simp only [go_sem, s11, List.length_append, List.map_append]) ob_o8 lt_o8 ob_o11 lt_o11 ne_o8_o11 hm0
        simp only [go_sem]
        refine ibr_intro (fun hc26 => ?_) (fun hc26 => ?_)
        · rw [if_t hc26] at hm0
          obtain ⟨x29, h_x29, hm0⟩ := bind_get hm0
          have h_x290 := get_nn h_x29
          have h_x291 := get_lt h_x29
          obtain ⟨l30, h_l30, hm0⟩ := bind_get hm0
          refine cw_reg_k fun K hK => ?_
          simp only [go_sem, s1, s9, s10, s11, ob_o11, lt_o11, lt_o8, ne_o8_o11, nsym ne_o8_o11, ielem_get h_x29, irow_get h_x29, h_x290, h_x291, istr_of v11]
          refine iapp_own (f := eShift) (l := l_11_1) (m := ([(Shift.mk (wr (from_ + ticks)) c x29)])) ?_ ?_ ?_ ?_ h_l30 ?_
          · exact (own_rs (by simp only [go_sem, ob_o8, lt_o8, ob_o11, lt_o11, ne_o8_o11, nsym ne_o8_o11, List.length_append, List.map_append]) (by simp only [go_sem, ob_o8, lt_o8, ob_o11, lt_o11, ne_o8_o11, nsym ne_o8_o11, List.length_append, List.map_append]) (by simp only [go_sem, lt_o8, lt_o11]))
          · exact (ownx_rs (by simp only [go_sem, ob_o8, lt_o8, ob_o11, lt_o11, ne_o8_o11, nsym ne_o8_o11, List.length_append, List.map_append]) (by simp only [go_sem, ob_o8, lt_o8, ob_o11, lt_o11, ne_o8_o11, nsym ne_o8_o11, List.length_append, List.map_append]))
          · exact (nd_rs (by first | exact notid_nil | exact notid_rs (by first | omega | (simp only [nxs] <;> omega)) | assumption | exact own_notid (by assumption) (by first | omega | (simp only [go_sem, nxs] <;> omega))))
          · exact (fun _ => by simp)
          simp only [go_sem, s1, s9, s10, s11, ob_o11, lt_o11, lt_o8, ne_o8_o11, nsym ne_o8_o11, ielem_get h_x29, irow_get h_x29, h_x290, h_x291, istr_of v11]
          refine hK _ _ ?_
          clear hK K
          simp only [qblock_normal, qseq_normal]
          exact J12 l30 (nxs h.nx) _ _ s4 s8 s10 (by first | (simp only [go_sem, s11, List.length_append, List.map_append]; done) | rfl) (by simp only [go_sem, ob_o8, lt_o8, lt_o11, ne_o8_o11, nsym ne_o8_o11, List.length_append, List.map_append]) (by simp only [go_sem, lt_o8]) (by simp only [go_sem, lt_o11, List.length_append, List.map_append]) (by simp only [go_sem]) (by first | first | assumption | omega | (simp only [nxs] <;> omega)) hm0
        · rw [if_f hc26] at hm0
          simp only [cw_skip, qblock_normal, qseq_normal]
          exact J12 l_11_1 i11 _ _ s4 s8 s10 (by first | exact s11 | simp only [go_sem, s11, List.length_append, List.map_append]) ob_o8 lt_o8 ob_o11 lt_o11 ne_o8_o11 hm0
      simp only [cw_block]
      obtain ⟨b31, hl31, hm0⟩ := bind_get hm0
      refine cw_loopM hl31 (fun | (l_11_1, i_13), t, h => ∃ i11 : Nat, t 1 = I c ∧ t 2 = I from_ ∧ t 4 = .fp [.fs 5 (List.map eComb h_.Combs), .fs 3 (List.map eTrain h_.Trains), .fs 3 (List.map eShift h_.Shifts), I h_.Until] 0 ∧ t 8 = .rp i8 0 0 ∧ t 9 = .fs 1 (List.map eI y4) ∧ t 10 = I (wr (from_ + ticks)) ∧ t 11 = .rs i11 0 (List.length l_11_1) ∧ t 13 = I i_13 ∧ h.ob i8 = some (4, [[.v (.slice none 0 0), .v (.slice none 0 0), .v (.slice none 0 0), I 0]]) ∧ i8 < h.nx ∧ h.ob i11 = some (3, List.map eShift l_11_1) ∧ i11 < h.nx ∧ ¬i8 = i11) ?_ ?_
      · exact ⟨(nxs h.nx), s1, s2, s4, s8, s9, s10, (by first | (simp only [go_sem, s11, List.length_append, List.map_append]; done) | rfl), (by first | (simp only [go_sem, List.length_append, List.map_append]; done) | rfl), (by simp only [go_sem, ob_o8, lt_o8, own_late ow_o11, ni_o8_o11, List.length_append, List.map_append]), (by simp only [go_sem, lt_o8]), (by simp only [go_sem, own_late ow_o11, List.length_append, List.map_append]), (by simp only [go_sem]), (by first | first | assumption | omega | (simp only [nxs] <;> omega))⟩
      · try clear s1 s2 s4 s8 s9 s10 s11 ob_o8 lt_o8 ow_o11 ni_o8_o11
        rintro ⟨l_11_1, i_13⟩ o t h ⟨i11, s1, s2, s4, s8, s9, s10, s11, s13, ob_o8, lt_o8, ob_o11, lt_o11, ne_o8_o11⟩ hm1 hb31
        simp only [r06_Shut_L18] at hm1
        rw [x_r06_Shut_L18]
        refine cw_assoc ?_
        refine cw_reg_seq fun K hK => ?_
        simp only [go_sem, s4, s13, lt_o8, lt_o11, istr_of v11]
        refine hK _ _ ?_
        clear hK K
        refine cw_seq_k fun K32 hK32 => ?_
        simp only [go_sem]
        refine ibr_intro (fun hc33 => ?_) (fun hc33 => ?_)
        · rw [if_t hc33] at hm1
          simp only [cw_skip, qblock_normal, qseq_normal]
          refine hK32 _ _ ?_
          refine cw_seq_k fun K34 hK34 => ?_
          have J35 : ∀ (l_11_2 : List Shift) (i11_1 : Nat) (t : Slots) (h : Heap), t 1 = I c → t 2 = I from_ → t 4 = .fp [.fs 5 (List.map eComb h_.Combs), .fs 3 (List.map eTrain h_.Trains), .fs 3 (List.map eShift h_.Shifts), I h_.Until] 0 → t 8 = .rp i8 0 0 → t 9 = .fs 1 (List.map eI y4) → t 10 = I (wr (from_ + ticks)) → t 11 = .rs i11_1 0 (List.length l_11_2) → t 13 = I i_13 → h.ob i8 = some (4, [[.v (.slice none 0 0), .v (.slice none 0 0), .v (.slice none 0 0), I 0]]) → i8 < h.nx → h.ob i11_1 = some (3, List.map eShift l_11_2) → i11_1 < h.nx → ¬i8 = i11_1 → r06_Shut_j35 i_13 l_11_2 = some o → K34 t h := by
            try clear s1 s2 s4 s8 s9 s10 s11 s13 ob_o8 lt_o8 ob_o11 lt_o11 ne_o8_o11
            intro l_11_2 i11_1 t h s1 s2 s4 s8 s9 s10 s11 s13 ob_o8 lt_o8 ob_o11 lt_o11 ne_o8_o11 hm1
            refine hK34 _ _ ?_
            unfold r06_Shut_j35 at hm1
            refine cw_reg_k fun K hK => ?_
            simp only [go_sem, s13, lt_o8, lt_o11, istr_of v11]
            refine hK _ _ ?_
            clear hK K
            simp only [qblock_normal, qseq_normal]
            obtain rfl := Option.some.inj hm1
            refine ⟨_, rfl, ?_⟩
            exact ⟨i11_1, s1, s2, s4, s8, s9, s10, (by first | exact s11 | simp only [go_sem, s11, List.length_append, List.map_append]), (by first | (simp only [go_sem, s13, List.length_append, List.map_append]; done) | rfl), ob_o8, lt_o8, ob_o11, lt_o11, ne_o8_o11⟩
          simp only [cw_block]
          obtain ⟨x37, h_x37, hm1⟩ := bind_get hm1
          have h_x370 := get_nn h_x37
          have h_x371 := get_lt h_x37
          refine cw_reg_seq fun K hK => ?_
          simp only [go_sem, s4, s13, lt_o8, lt_o11, ielem_get h_x37, irow_get h_x37, h_x370, h_x371, istr_of v11]
          refine hK _ _ ?_
          clear hK K
          refine cw_reg_postK (fun t h => ∃ i14 : Nat, t 1 = I c ∧ t 2 = I from_ ∧ t 4 = .fp [.fs 5 (List.map eComb h_.Combs), .fs 3 (List.map eTrain h_.Trains), .fs 3 (List.map eShift h_.Shifts), I h_.Until] 0 ∧ t 8 = .rp i8 0 0 ∧ t 9 = .fs 1 (List.map eI y4) ∧ t 10 = I (wr (from_ + ticks)) ∧ t 11 = .rs i11 0 (List.length l_11_1) ∧ t 13 = I i_13 ∧ t 14 = .rp i14 0 0 ∧ t 90 = B (((decide (from_ < x37.At)) && (decide (x37.At ≤ (wr (from_ + ticks))))) && ((decide (¬x37.Comb = c)) || (decide (x37.At = (wr (from_ + ticks)))))) ∧ h.ob i8 = some (4, [[.v (.slice none 0 0), .v (.slice none 0 0), .v (.slice none 0 0), I 0]]) ∧ i8 < h.nx ∧ h.ob i11 = some (3, List.map eShift l_11_1) ∧ i11 < h.nx ∧ h.ob i14 = some (3, [[I x37.At, I x37.Comb, I x37.Rate]]) ∧ i14 < h.nx ∧ ¬i8 = i11 ∧ ¬i8 = i14 ∧ ¬i11 = i14) (fun K hK => ?_) ?_
          · simp only [go_sem, s1, s2, s10, lt_o8, lt_o11, istr_of v11]
            refine ibr_intro (fun hg38 => ?_) (fun hg38 => ?_)
            · simp only [go_sem, s1, s2, s10, lt_o8, lt_o11, hg38, istr_of v11]
              refine ibr_intro (fun hg39 => ?_) (fun hg39 => ?_)
              · simp only [go_sem, s1, s2, s10, lt_o8, lt_o11, hg38, hg39, istr_of v11]
                refine ibr_intro (fun hg40 => ?_) (fun hg40 => ?_)
                · simp only [go_sem, s1, s2, s10, lt_o8, lt_o11, hg38, hg39, hg40, istr_of v11]
                  exact hK _ _ ⟨h.nx, s1, s2, s4, s8, s9, s10, (by first | exact s11 | simp only [go_sem, s11, List.length_append, List.map_append]), s13, (by first | (simp only [go_sem, hg38, hg39, hg40, List.length_append, List.map_append]; done) | rfl), (by first | (simp only [go_sem, hg38, hg39, hg40, List.length_append, List.map_append]; done) | rfl), (by simp only [go_sem, ob_o8, lt_o8, hg38, hg39, hg40, List.length_append, List.map_append]), (by simp only [go_sem, lt_o8]), (by simp only [go_sem, ob_o11, lt_o11, hg38, hg39, hg40, List.length_append, List.map_append]), (by simp only [go_sem, lt_o11]), (by simp only [go_sem, hg38, hg39, hg40, List.length_append, List.map_append]), (by simp only [go_sem]), ne_o8_o11, (by first | first | assumption | omega | (simp only [nxs] <;> omega)), (by first | first | assumption | omega | (simp only [nxs] <;> omega))⟩
                · simp only [go_sem, s1, s2, s10, lt_o8, lt_o11, hg38, hg39, hg40, istr_of v11]
                  exact hK _ _ ⟨h.nx, s1, s2, s4, s8, s9, s10, (by first | exact s11 | simp only [go_sem, s11, List.length_append, List.map_append]), s13, (by first | (simp only [go_sem, hg38, hg39, hg40, List.length_append, List.map_append]; done) | rfl), (by first | (simp only [go_sem, hg38, hg39, hg40, List.length_append, List.map_append]; done) | rfl), (by simp only [go_sem, ob_o8, lt_o8, hg38, hg39, hg40, List.length_append, List.map_append]), (by simp only [go_sem, lt_o8]), (by simp only [go_sem, ob_o11, lt_o11, hg38, hg39, hg40, List.length_append, List.map_append]), (by simp only [go_sem, lt_o11]), (by simp only [go_sem, hg38, hg39, hg40, List.length_append, List.map_append]), (by simp only [go_sem]), ne_o8_o11, (by first | first | assumption | omega | (simp only [nxs] <;> omega)), (by first | first | assumption | omega | (simp only [nxs] <;> omega))⟩
              · simp only [go_sem, s1, s2, s10, lt_o8, lt_o11, hg38, hg39, istr_of v11]
                exact hK _ _ ⟨h.nx, s1, s2, s4, s8, s9, s10, (by first | exact s11 | simp only [go_sem, s11, List.length_append, List.map_append]), s13, (by first | (simp only [go_sem, hg38, hg39, List.length_append, List.map_append]; done) | rfl), (by first | (simp only [go_sem, hg38, hg39, List.length_append, List.map_append]; done) | rfl), (by simp only [go_sem, ob_o8, lt_o8, hg38, hg39, List.length_append, List.map_append]), (by simp only [go_sem, lt_o8]), (by simp only [go_sem, ob_o11, lt_o11, hg38, hg39, List.length_append, List.map_append]), (by simp only [go_sem, lt_o11]), (by simp only [go_sem, hg38, hg39, List.length_append, List.map_append]), (by simp only [go_sem]), ne_o8_o11, (by first | first | assumption | omega | (simp only [nxs] <;> omega)), (by first | first | assumption | omega | (simp only [nxs] <;> omega))⟩
            · simp only [go_sem, s1, s2, s10, lt_o8, lt_o11, hg38, istr_of v11]
              exact hK _ _ ⟨h.nx, s1, s2, s4, s8, s9, s10, (by first | exact s11 | simp only [go_sem, s11, List.length_append, List.map_append]), s13, (by first | (simp only [go_sem, hg38, List.length_append, List.map_append]; done) | rfl), (by first | (simp only [go_sem, hg38, List.length_append, List.map_append]; done) | rfl), (by simp only [go_sem, ob_o8, lt_o8, hg38, List.length_append, List.map_append]), (by simp only [go_sem, lt_o8]), (by simp only [go_sem, ob_o11, lt_o11, hg38, List.length_append, List.map_append]), (by simp only [go_sem, lt_o11]), (by simp only [go_sem, hg38, List.length_append, List.map_append]), (by simp only [go_sem]), ne_o8_o11, (by first | first | assumption | omega | (simp only [nxs] <;> omega)), (by first | first | assumption | omega | (simp only [nxs] <;> omega))⟩
          · try clear s1 s2 s4 s8 s9 s10 s11 s13 ob_o8 lt_o8 ob_o11 lt_o11 ne_o8_o11
            rintro t h ⟨i14, s1, s2, s4, s8, s9, s10, s11, s13, s14, s90, ob_o8, lt_o8, ob_o11, lt_o11, ob_o14, lt_o14, ne_o8_o11, ne_o8_o14, ne_o11_o14⟩
            simp only [go_sem, s90]
            refine ibr_intro (fun hc41 => ?_) (fun hc41 => ?_)
            · rw [if_t hc41] at hm1
              obtain ⟨l43, h_l43, hm1⟩ := bind_get hm1
              refine cw_reg_k fun K hK => ?_
              simp only [go_sem, s11, s14, ob_o11, lt_o11, ob_o14, lt_o14, lt_o8, ne_o8_o11, nsym ne_o8_o11, ne_o8_o14, nsym ne_o8_o14, ne_o11_o14, nsym ne_o11_o14, istr_of v11]
              refine iapp_own (f := eShift) (l := l_11_1) (m := ([x37])) ?_ ?_ ?_ ?_ h_l43 ?_
              · exact (own_rs (by simp only [go_sem, ob_o8, lt_o8, ob_o11, lt_o11, ob_o14, lt_o14, ne_o8_o11, nsym ne_o8_o11, ne_o8_o14, nsym ne_o8_o14, ne_o11_o14, nsym ne_o11_o14, List.length_append, List.map_append]) (by simp only [go_sem, ob_o8, lt_o8, ob_o11, lt_o11, ob_o14, lt_o14, ne_o8_o11, nsym ne_o8_o11, ne_o8_o14, nsym ne_o8_o14, ne_o11_o14, nsym ne_o11_o14, List.length_append, List.map_append]) (by simp only [go_sem, lt_o8, lt_o11, lt_o14]))
              · exact (ownx_rs (by simp only [go_sem, ob_o8, lt_o8, ob_o11, lt_o11, ob_o14, lt_o14, ne_o8_o11, nsym ne_o8_o11, ne_o8_o14, nsym ne_o8_o14, ne_o11_o14, nsym ne_o11_o14, List.length_append, List.map_append]) (by simp only [go_sem, ob_o8, lt_o8, ob_o11, lt_o11, ob_o14, lt_o14, ne_o8_o11, nsym ne_o8_o11, ne_o8_o14, nsym ne_o8_o14, ne_o11_o14, nsym ne_o11_o14, List.length_append, List.map_append]))
              · exact (nd_rs (by first | exact notid_nil | exact notid_rs (by first | omega | (simp only [nxs] <;> omega)) | assumption | exact own_notid (by assumption) (by first | omega | (simp only [go_sem, nxs] <;> omega))))
              · exact (fun _ => by simp)
              simp only [go_sem, s11, s14, ob_o11, lt_o11, ob_o14, lt_o14, lt_o8, ne_o8_o11, nsym ne_o8_o11, ne_o8_o14, nsym ne_o8_o14, ne_o11_o14, nsym ne_o11_o14, istr_of v11]
              refine hK _ _ ?_
              clear hK K
              simp only [qblock_normal, qseq_normal]
              exact J35 l43 (nxs h.nx) _ _ s1 s2 s4 s8 s9 s10 (by first | (simp only [go_sem, s11, List.length_append, List.map_append]; done) | rfl) s13 (by simp only [go_sem, ob_o8, lt_o8, lt_o11, ne_o8_o11, nsym ne_o8_o11, List.length_append, List.map_append]) (by simp only [go_sem, lt_o8]) (by simp only [go_sem, lt_o11, List.length_append, List.map_append]) (by simp only [go_sem]) (by first | first | assumption | omega | (simp only [nxs] <;> omega)) hm1
            · rw [if_f hc41] at hm1
              simp only [cw_skip, qblock_normal, qseq_normal]
              exact J35 l_11_1 i11 _ _ s1 s2 s4 s8 s9 s10 (by first | exact s11 | simp only [go_sem, s11, List.length_append, List.map_append]) s13 ob_o8 lt_o8 ob_o11 lt_o11 ne_o8_o11 hm1
        · rw [if_f hc33] at hm1
          simp only [cw_exit, qseq_exit, qblock_same, qblock_ne, qblock_normal, qseq_normal, Nat.reduceEqDiff, not_false_eq_true]
          obtain rfl := Option.some.inj hm1
          obtain rfl := hb31 _ rfl
          try dsimp only at hm0
          exact J10 l_11_1 i11 _ _ s1 s4 s8 s9 s10 (by first | exact s11 | simp only [go_sem, s11, List.length_append, List.map_append]) ob_o8 lt_o8 ob_o11 lt_o11 ne_o8_o11 hm0
    simp only [cw_block]
    obtain ⟨b45, hl45, hm0⟩ := bind_get hm0
    refine cw_loopM hl45 (fun | (l_11, i_12), t, h => ∃ i8 : Nat, ∃ v11 : AV, t 1 = I c ∧ t 2 = I from_ ∧ t 4 = .fp [.fs 5 (List.map eComb h_.Combs), .fs 3 (List.map eTrain h_.Trains), .fs 3 (List.map eShift h_.Shifts), I h_.Until] 0 ∧ t 8 = .rp i8 0 0 ∧ t 9 = .fs 1 (List.map eI y4) ∧ t 10 = I (wr (from_ + ticks)) ∧ t 11 = v11 ∧ t 12 = I i_12 ∧ h.ob i8 = some (4, [[.v (.slice none 0 0), .v (.slice none 0 0), .v (.slice none 0 0), I 0]]) ∧ i8 < h.nx ∧ OwnS h v11 3 (List.map eShift l_11) ∧ NotId v11 i8) ?_ ?_
    · exact ⟨h.nx, (.v (.slice none 0 0)), s1, s2, (by first | (simp only [go_sem, List.length_append, List.map_append]; done) | rfl), (by first | (simp only [go_sem, List.length_append, List.map_append]; done) | rfl), (by first | (simp only [go_sem, List.length_append, List.map_append]; done) | rfl), (by first | (simp only [go_sem, List.length_append, List.map_append]; done) | rfl), (by first | (simp only [go_sem, List.length_append, List.map_append]; done) | rfl), (by first | (simp only [go_sem, List.length_append, List.map_append]; done) | rfl), (by simp only [go_sem, List.length_append, List.map_append]), (by simp only [go_sem]), own_nil', (by first | exact notid_nil | exact notid_rs (by first | assumption | omega | (simp only [nxs] <;> omega)) | assumption | exact own_notid (by assumption) (by first | assumption | omega | (simp only [nxs] <;> omega)))⟩
    · rintro ⟨l_11, i_12⟩ o t h ⟨i8, v11, s1, s2, s4, s8, s9, s10, s11, s12, ob_o8, lt_o8, ow_o11, ni_o8_o11⟩ hm1 hb45
      simp only [r06_Shut_L10] at hm1
      rw [x_r06_Shut_L10]
      refine cw_assoc ?_
      obtain ⟨c49, h_c49, hm1⟩ := bind_get hm1
      refine cw_reg_postK (fun t h => t 1 = I c ∧ t 2 = I from_ ∧ t 4 = .fp [.fs 5 (List.map eComb h_.Combs), .fs 3 (List.map eTrain h_.Trains), .fs 3 (List.map eShift h_.Shifts), I h_.Until] 0 ∧ t 8 = .rp i8 0 0 ∧ t 9 = .fs 1 (List.map eI y4) ∧ t 10 = I (wr (from_ + ticks)) ∧ t 11 = v11 ∧ t 12 = I i_12 ∧ t 40 = B c49 ∧ h.ob i8 = some (4, [[.v (.slice none 0 0), .v (.slice none 0 0), .v (.slice none 0 0), I 0]]) ∧ i8 < h.nx ∧ OwnS h v11 3 (List.map eShift l_11) ∧ NotId v11 i8) (fun K hK => ?_) ?_
      · simp only [go_sem, s2, s4, s12, lt_o8, istr_of v11]
        refine ibr_intro (fun hg50 => ?_) (fun hg50 => ?_)
        · simp only [hg50, Bool.not_true, Bool.not_false, eq_self, if_true, if_false, Bool.true_or, Bool.or_true, Bool.false_or, Bool.or_false, Bool.true_and, Bool.and_true, Bool.false_and, Bool.and_false, Bool.false_eq_true] at h_c49
          obtain ⟨x48, h_x48, h_c49⟩ := bind_get h_c49
          have h_x480 := get_nn h_x48
          have h_x481 := get_lt h_x48
          obtain rfl := Option.some.inj h_c49
          simp only [go_sem, s2, s4, s12, lt_o8, ielem_get h_x48, irow_get h_x48, h_x480, h_x481, hg50, istr_of v11]
          exact hK _ _ ⟨s1, s2, s4, s8, s9, s10, s11, s12, (by first | (simp only [go_sem, hg50, List.length_append, List.map_append]; done) | rfl), ob_o8, lt_o8, ow_o11, ni_o8_o11⟩
        · simp only [hg50, Bool.not_true, Bool.not_false, eq_self, if_true, if_false, Bool.true_or, Bool.or_true, Bool.false_or, Bool.or_false, Bool.true_and, Bool.and_true, Bool.false_and, Bool.and_false, Bool.false_eq_true] at h_c49
          obtain rfl := Option.some.inj h_c49
          simp only [go_sem, s2, s4, s12, lt_o8, hg50, istr_of v11]
          exact hK _ _ ⟨s1, s2, s4, s8, s9, s10, s11, s12, (by first | (simp only [go_sem, hg50, List.length_append, List.map_append]; done) | rfl), ob_o8, lt_o8, ow_o11, ni_o8_o11⟩
      · try clear s1 s2 s4 s8 s9 s10 s11 s12 ob_o8 lt_o8 ow_o11 ni_o8_o11
        rintro t h ⟨s1, s2, s4, s8, s9, s10, s11, s12, s40, ob_o8, lt_o8, ow_o11, ni_o8_o11⟩
        refine cw_seq_k fun K51 hK51 => ?_
        simp only [go_sem, s40]
        refine ibr_intro (fun hc52 => ?_) (fun hc52 => ?_)
        · rw [if_t hc52] at hm1
          simp only [cw_skip, qblock_normal, qseq_normal]
          refine hK51 _ _ ?_
          refine cw_seq_k fun K53 hK53 => ?_
          simp only [cw_block]
          obtain ⟨x56, h_x56, hm1⟩ := bind_get hm1
          have h_x560 := get_nn h_x56
          have h_x561 := get_lt h_x56
          obtain ⟨l57, h_l57, hm1⟩ := bind_get hm1
          refine cw_reg_k fun K hK => ?_
          simp only [go_sem, s4, s11, s12, lt_o8, ni_o8_o11, ielem_get h_x56, irow_get h_x56, h_x560, h_x561, istr_of v11]
          refine iapp_own (f := eShift) (l := l_11) (m := ([x56])) ?_ ?_ ?_ ?_ h_l57 ?_
          · exact (own_later ow_o11 (by intro j hj hl; first | rfl | simp only [go_sem, hl, own_ne hj ni_o8_o11]) (by first | omega | exact Nat.le_refl _ | (simp only [go_sem, nxs] <;> omega)))
          · exact (ownx_rs (by simp only [go_sem, ob_o8, lt_o8, own_late ow_o11, ni_o8_o11, List.length_append, List.map_append]) (by simp only [go_sem, ob_o8, lt_o8, own_late ow_o11, ni_o8_o11, List.length_append, List.map_append]))
          · exact (nd_rs (by first | exact notid_nil | exact notid_rs (by first | omega | (simp only [nxs] <;> omega)) | assumption | exact own_notid (by assumption) (by first | omega | (simp only [go_sem, nxs] <;> omega))))
          · exact (fun _ => by simp)
          simp only [go_sem, s4, s11, s12, lt_o8, ni_o8_o11, ielem_get h_x56, irow_get h_x56, h_x560, h_x561, istr_of v11]
          refine hK _ _ ?_
          clear hK K
          simp only [qblock_normal, qseq_normal]
          refine hK53 _ _ ?_
          refine cw_reg_k fun K hK => ?_
          simp only [go_sem, s12, lt_o8, istr_of v11]
          refine hK _ _ ?_
          clear hK K
          simp only [qblock_normal, qseq_normal]
          obtain rfl := Option.some.inj hm1
          refine ⟨_, rfl, ?_⟩
          exact ⟨i8, (.rs (nxs h.nx) 0 (List.length l57)), s1, s2, s4, s8, s9, s10, (by first | (simp only [go_sem, s11, List.length_append, List.map_append]; done) | rfl), (by first | (simp only [go_sem, s12, List.length_append, List.map_append]; done) | rfl), (by simp only [go_sem, ob_o8, lt_o8, own_late ow_o11, ni_o8_o11, List.length_append, List.map_append]), (by simp only [go_sem, lt_o8]), (own_rs (by simp only [go_sem, own_late ow_o11, List.length_append, List.map_append]) (by first | rfl | simp only [go_sem, List.length_append, List.map_append]) (by simp only [go_sem])), (by first | exact notid_nil | exact notid_rs (by first | assumption | omega | (simp only [nxs] <;> omega)) | assumption | exact own_notid (by assumption) (by first | assumption | omega | (simp only [nxs] <;> omega)))⟩
        · rw [if_f hc52] at hm1
          simp only [cw_exit, qseq_exit, qblock_same, qblock_ne, qblock_normal, qseq_normal, Nat.reduceEqDiff, not_false_eq_true]
          obtain rfl := Option.some.inj hm1
          obtain rfl := hb45 _ rfl
          try dsimp only at hm0
          exact J6 l_11 i8 v11 _ _ s1 s2 s4 s8 s9 s10 s11 ob_o8 lt_o8 ow_o11 ni_o8_o11 hm0

end Go.Nw.HM

namespace Go.Nw.HM
open Go.Nw.Halls
set_option linter.unusedSimpArgs false
set_option linter.unusedVariables false
set_option maxHeartbeats 4000000
variable {O : Orac}

theorem k_r06_rates (hf : Has O "newel/newelref06.rates" x_r06_rates) : C_r06_rates O := by
  intro h_ comb r hm0
  unfold r06_rates at hm0
  refine fn_cw hf rfl (fz_cons (.agg _ (fz_cons (frz_fs fun a _ => fz_eComb a) (fz_cons (frz_fs fun a _ => fz_eTrain a) (fz_cons (frz_fs fun a _ => fz_eShift a) (fz_cons (frz_v _) fz_nil))))) (fz_cons (frz_v _) fz_nil)) (frz_fs fun a _ => fz_eI a) ?_
  refine cw_start (fun t h => t 0 = .agg [.fs 5 (List.map eComb h_.Combs), .fs 3 (List.map eTrain h_.Trains), .fs 3 (List.map eShift h_.Shifts), I h_.Until] ∧ t 1 = I comb) ⟨rfl, rfl⟩ fun t h ⟨s0, s1⟩ => ?_
  simp only [x_r06_rates]
  refine cw_reg_seq fun K hK => ?_
  simp only [go_sem, s0]
  refine hK _ _ ?_
  clear hK K
  obtain ⟨l2, h_l2, hm0⟩ := bind_get hm0
  refine cw_reg_seq fun K hK => ?_
  simp only [go_sem]
  refine imksl_ok (f := eI) (z := 0) rfl h_l2 ?_
  simp only [go_sem]
  refine hK _ _ ?_
  clear hK K
  refine cw_assoc ?_
  refine cw_reg_seq fun K hK => ?_
  simp only [go_sem]
  refine hK _ _ ?_
  clear hK K
  refine cw_seq_k fun K3 hK3 => ?_
  have J4 : ∀ (l_5 : List Int) (i5 : Nat) (t : Slots) (h : Heap), t 5 = .rs i5 0 (List.length l_5) → h.ob i5 = some (1, List.map eI l_5) → i5 < h.nx → r06_rates_j4 l_5 = some r → K3 t h := by
    intro l_5 i5 t h s5 ob_o5 lt_o5 hm0
    refine hK3 _ _ ?_
    unfold r06_rates_j4 at hm0
    refine cw_reg_seq fun K hK => ?_
    simp only [go_sem, s5, ob_o5, lt_o5]
    refine hK _ _ ?_
    clear hK K
    simp only [cw_ret, qseq_ret, qblock_ret, retQ_ret]
    obtain rfl := Option.some.inj hm0
    exact done_fz (v := .rs i5 0 (List.length l_5)) (by simp only [go_sem, ob_o5, lt_o5, List.length_append, List.map_append]) (fz_rs (f := eI) (l := l_5) (id := i5) (by simp only [go_sem, ob_o5, lt_o5, List.length_append, List.map_append]) (by first | rfl | simp only [go_sem, List.length_append, List.map_append]) fz_eI ln_eI)
  simp only [cw_block]
  obtain ⟨b5, hl5, hm0⟩ := bind_get hm0
  refine cw_loopM hl5 (fun | (l_5, t_6), t, h => ∃ i5 : Nat, t 1 = I comb ∧ t 2 = .fp [.fs 5 (List.map eComb h_.Combs), .fs 3 (List.map eTrain h_.Trains), .fs 3 (List.map eShift h_.Shifts), I h_.Until] 0 ∧ t 5 = .rs i5 0 (List.length l_5) ∧ t 6 = I t_6 ∧ h.ob i5 = some (1, List.map eI l_5) ∧ i5 < h.nx) ?_ ?_
  · exact ⟨h.nx, s1, (by first | (simp only [go_sem, List.length_append, List.map_append]; done) | rfl), (by first | (simp only [go_sem, List.length_append, List.map_append]; done) | rfl), (by first | (simp only [go_sem, List.length_append, List.map_append]; done) | rfl), (by simp only [go_sem, List.length_append, List.map_append]), (by simp only [go_sem])⟩
  · rintro ⟨l_5, t_6⟩ o t h ⟨i5, s1, s2, s5, s6, ob_o5, lt_o5⟩ hm1 hb5
    simp only [r06_rates_L12] at hm1
    rw [x_r06_rates_L12]
    refine cw_assoc ?_
    refine cw_reg_seq fun K hK => ?_
    simp only [go_sem, s2, s6, lt_o5]
    refine hK _ _ ?_
    clear hK K
    refine cw_seq_k fun K6 hK6 => ?_
    simp only [go_sem]
    refine ibr_intro (fun hc7 => ?_) (fun hc7 => ?_)
    · rw [if_t hc7] at hm1
      simp only [cw_skip, qblock_normal, qseq_normal]
      refine hK6 _ _ ?_
      refine cw_seq_k fun K8 hK8 => ?_
      have J9 : ∀ (l_5_1 : List Int) (t : Slots) (h : Heap), t 1 = I comb → t 2 = .fp [.fs 5 (List.map eComb h_.Combs), .fs 3 (List.map eTrain h_.Trains), .fs 3 (List.map eShift h_.Shifts), I h_.Until] 0 → t 5 = .rs i5 0 (List.length l_5_1) → t 6 = I t_6 → h.ob i5 = some (1, List.map eI l_5_1) → i5 < h.nx → r06_rates_j9 t_6 l_5_1 = some o → K8 t h := by
        intro l_5_1 t h s1 s2 s5 s6 ob_o5 lt_o5 hm1
        refine hK8 _ _ ?_
        unfold r06_rates_j9 at hm1
        refine cw_reg_k fun K hK => ?_
        simp only [go_sem, s6, lt_o5]
        refine hK _ _ ?_
        clear hK K
        simp only [qblock_normal, qseq_normal]
        obtain rfl := Option.some.inj hm1
        refine ⟨_, rfl, ?_⟩
        exact ⟨i5, s1, s2, (by first | exact s5 | simp only [go_sem, s5, List.length_append, List.map_append]), (by first | (simp only [go_sem, s6, List.length_append, List.map_append]; done) | rfl), ob_o5, lt_o5⟩
      simp only [cw_block]
      obtain ⟨x12, h_x12, hm1⟩ := bind_get hm1
      have h_x120 := get_nn h_x12
      have h_x121 := get_lt h_x12
      obtain ⟨x13, h_x13, hm1⟩ := bind_get hm1
      have h_x130 := get_nn h_x13
      have h_x131 := get_lt h_x13
      refine cw_reg_seq fun K hK => ?_
      simp only [go_sem, s1, s2, s5, s6, ob_o5, lt_o5, ielem_get h_x12, irow_get h_x12, h_x120, h_x121, ielem_get h_x13, irow_get h_x13, h_x130, h_x131]
      refine hK _ _ ?_
      clear hK K
      refine cw_reg_seq fun K hK => ?_
      simp only [go_sem, lt_o5]
      refine hK _ _ ?_
      clear hK K
      simp only [cw_block]
      obtain ⟨b14, hl14, hm1⟩ := bind_get hm1
      refine cw_loopM hl14 (fun | (l_5_1, i_7), t, h => t 1 = I comb ∧ t 2 = .fp [.fs 5 (List.map eComb h_.Combs), .fs 3 (List.map eTrain h_.Trains), .fs 3 (List.map eShift h_.Shifts), I h_.Until] 0 ∧ t 5 = .rs i5 0 (List.length l_5_1) ∧ t 6 = I t_6 ∧ t 7 = I i_7 ∧ h.ob i5 = some (1, List.map eI l_5_1) ∧ i5 < h.nx) ?_ ?_
      · exact ⟨s1, s2, (by first | exact s5 | simp only [go_sem, s5, List.length_append, List.map_append]), s6, (by first | (simp only [go_sem, List.length_append, List.map_append]; done) | rfl), (by simp only [go_sem, ob_o5, lt_o5, List.length_append, List.map_append]), (by simp only [go_sem, lt_o5])⟩
      · rintro ⟨l_5_1, i_7⟩ o t h ⟨s1, s2, s5, s6, s7, ob_o5, lt_o5⟩ hm2 hb14
        simp only [r06_rates_L10] at hm2
        rw [x_r06_rates_L10]
        refine cw_assoc ?_
        refine cw_reg_seq fun K hK => ?_
        simp only [go_sem, s2, s7, lt_o5]
        refine hK _ _ ?_
        clear hK K
        refine cw_seq_k fun K15 hK15 => ?_
        simp only [go_sem]
        refine ibr_intro (fun hc16 => ?_) (fun hc16 => ?_)
        · rw [if_t hc16] at hm2
          simp only [cw_skip, qblock_normal, qseq_normal]
          refine hK15 _ _ ?_
          refine cw_seq_k fun K17 hK17 => ?_
          have J18 : ∀ (l_5_2 : List Int) (t : Slots) (h : Heap), t 1 = I comb → t 2 = .fp [.fs 5 (List.map eComb h_.Combs), .fs 3 (List.map eTrain h_.Trains), .fs 3 (List.map eShift h_.Shifts), I h_.Until] 0 → t 5 = .rs i5 0 (List.length l_5_2) → t 6 = I t_6 → t 7 = I i_7 → h.ob i5 = some (1, List.map eI l_5_2) → i5 < h.nx → r06_rates_j18 i_7 l_5_2 = some o → K17 t h := by
            intro l_5_2 t h s1 s2 s5 s6 s7 ob_o5 lt_o5 hm2
            refine hK17 _ _ ?_
            unfold r06_rates_j18 at hm2
            refine cw_reg_k fun K hK => ?_
            simp only [go_sem, s7, lt_o5]
            refine hK _ _ ?_
            clear hK K
            simp only [qblock_normal, qseq_normal]
            obtain rfl := Option.some.inj hm2
            refine ⟨_, rfl, ?_⟩
            exact ⟨s1, s2, (by first | exact s5 | simp only [go_sem, s5, List.length_append, List.map_append]), s6, (by first | (simp only [go_sem, s7, List.length_append, List.map_append]; done) | rfl), ob_o5, lt_o5⟩
          simp only [cw_block]
          obtain ⟨x20, h_x20, hm2⟩ := bind_get hm2
          have h_x200 := get_nn h_x20
          have h_x201 := get_lt h_x20
          refine cw_reg_postK (fun t h => t 1 = I comb ∧ t 2 = .fp [.fs 5 (List.map eComb h_.Combs), .fs 3 (List.map eTrain h_.Trains), .fs 3 (List.map eShift h_.Shifts), I h_.Until] 0 ∧ t 5 = .rs i5 0 (List.length l_5_1) ∧ t 6 = I t_6 ∧ t 7 = I i_7 ∧ t 50 = B ((decide (x20.Comb = comb)) && (decide (x20.At ≤ t_6))) ∧ h.ob i5 = some (1, List.map eI l_5_1) ∧ i5 < h.nx) (fun K hK => ?_) ?_
          · simp only [go_sem, s1, s2, s6, s7, lt_o5, ielem_get h_x20, irow_get h_x20, h_x200, h_x201]
            refine ibr_intro (fun hg21 => ?_) (fun hg21 => ?_)
            · simp only [go_sem, s1, s2, s6, s7, lt_o5, ielem_get h_x20, irow_get h_x20, h_x200, h_x201, hg21]
              exact hK _ _ ⟨s1, s2, (by first | exact s5 | simp only [go_sem, s5, List.length_append, List.map_append]), s6, s7, (by first | (simp only [go_sem, hg21, List.length_append, List.map_append]; done) | rfl), ob_o5, lt_o5⟩
            · simp only [go_sem, s1, s2, s6, s7, lt_o5, ielem_get h_x20, irow_get h_x20, h_x200, h_x201, hg21]
              exact hK _ _ ⟨s1, s2, (by first | exact s5 | simp only [go_sem, s5, List.length_append, List.map_append]), s6, s7, (by first | (simp only [go_sem, hg21, List.length_append, List.map_append]; done) | rfl), ob_o5, lt_o5⟩
          · rintro t h ⟨s1, s2, s5, s6, s7, s50, ob_o5, lt_o5⟩
            simp only [go_sem, s50]
            refine ibr_intro (fun hc22 => ?_) (fun hc22 => ?_)
            · rw [if_t hc22] at hm2
              obtain ⟨x24, h_x24, hm2⟩ := bind_get hm2
              have h_x240 := get_nn h_x24
              have h_x241 := get_lt h_x24
              refine cw_reg_k fun K hK => ?_
              simp only [go_sem, s2, s5, s6, s7, ob_o5, lt_o5, ielem_get h_x24, irow_get h_x24, h_x240, h_x241, ielem_get h_x20, irow_get h_x20, h_x200, h_x201]
              refine hK _ _ ?_
              clear hK K
              simp only [qblock_normal, qseq_normal]
              exact J18 (List.set l_5_1 (Int.toNat t_6) x20.Rate) _ _ s1 s2 (by first | exact s5 | simp only [go_sem, s5, List.length_append, List.map_append]) s6 s7 (by simp only [go_sem, ob_o5, lt_o5, List.length_append, List.map_append]) (by simp only [go_sem, lt_o5]) hm2
            · rw [if_f hc22] at hm2
              simp only [cw_skip, qblock_normal, qseq_normal]
              exact J18 l_5_1 _ _ s1 s2 (by first | exact s5 | simp only [go_sem, s5, List.length_append, List.map_append]) s6 s7 ob_o5 lt_o5 hm2
        · rw [if_f hc16] at hm2
          simp only [cw_exit, qseq_exit, qblock_same, qblock_ne, qblock_normal, qseq_normal, Nat.reduceEqDiff, not_false_eq_true]
          obtain rfl := Option.some.inj hm2
          obtain rfl := hb14 _ rfl
          try dsimp only at hm1
          exact J9 l_5_1 _ _ s1 s2 (by first | exact s5 | simp only [go_sem, s5, List.length_append, List.map_append]) s6 ob_o5 lt_o5 hm1
    · rw [if_f hc7] at hm1
      simp only [cw_exit, qseq_exit, qblock_same, qblock_ne, qblock_normal, qseq_normal, Nat.reduceEqDiff, not_false_eq_true]
      obtain rfl := Option.some.inj hm1
      obtain rfl := hb5 _ rfl
      try dsimp only at hm0
      exact J4 l_5 i5 _ _ (by first | exact s5 | simp only [go_sem, s5, List.length_append, List.map_append]) ob_o5 lt_o5 hm0

end Go.Nw.HM

namespace Go.Nw.HM
open Go.Nw.Halls
set_option linter.unusedSimpArgs false
set_option linter.unusedVariables false
set_option maxHeartbeats 4000000
variable {O : Orac}

theorem k_r06_spanned (hf : Has O "newel/newelref06.spanned" x_r06_spanned) : C_r06_spanned O := by
  intro s low high
  generalize hm0 : r06_spanned s low high = r
  unfold r06_spanned at hm0
  refine fn_cw hf rfl (fz_cons (.agg _ (fz_cons (frz_v _) (fz_cons (frz_v _) fz_nil))) (fz_cons (frz_v _) (fz_cons (frz_v _) fz_nil))) (frz_v _) ?_
  refine cw_start (fun t h => t 0 = .agg [I s.Low, I s.High] ∧ t 1 = I low ∧ t 2 = I high) ⟨rfl, rfl, rfl⟩ fun t h ⟨s0, s1, s2⟩ => ?_
  simp only [x_r06_spanned]
  refine cw_reg_seq fun K hK => ?_
  simp only [go_sem, s0]
  refine hK _ _ ?_
  clear hK K
  refine cw_reg_postK (fun t h => t 6 = B (((decide (low ≤ s.Low)) && (decide (s.Low ≤ s.High))) && (decide (s.High ≤ high)))) (fun K hK => ?_) ?_
  · simp only [go_sem, s1, s2]
    refine ibr_intro (fun hg1 => ?_) (fun hg1 => ?_)
    · simp only [go_sem, s1, s2, hg1]
      refine ibr_intro (fun hg2 => ?_) (fun hg2 => ?_)
      · simp only [go_sem, s1, s2, hg1, hg2]
        exact hK _ _ (by first | (simp only [go_sem, hg1, hg2, List.length_append, List.map_append]; done) | rfl)
      · simp only [go_sem, s1, s2, hg1, hg2]
        exact hK _ _ (by first | (simp only [go_sem, hg1, hg2, List.length_append, List.map_append]; done) | rfl)
    · simp only [go_sem, s1, s2, hg1]
      exact hK _ _ (by first | (simp only [go_sem, hg1, List.length_append, List.map_append]; done) | rfl)
  · rintro t h s6
    simp only [cw_ret, qseq_ret, qblock_ret, retQ_ret]
    obtain rfl := hm0
    exact done_t (by simp only [go_sem, s6, List.length_append, List.map_append]) (frz_v _)

end Go.Nw.HM

namespace Go.Nw.HM
open Go.Nw.Halls
set_option linter.unusedSimpArgs false
set_option linter.unusedVariables false
set_option maxHeartbeats 4000000
variable {O : Orac}

theorem k_r06_within (hf : Has O "newel/newelref06.within" x_r06_within) : C_r06_within O := by
  intro n low high
  generalize hm0 : r06_within n low high = r
  unfold r06_within at hm0
  refine fn_cw hf rfl (fz_cons (frz_v _) (fz_cons (frz_v _) (fz_cons (frz_v _) fz_nil))) (frz_v _) ?_
  refine cw_start (fun t h => t 0 = I n ∧ t 1 = I low ∧ t 2 = I high) ⟨rfl, rfl, rfl⟩ fun t h ⟨s0, s1, s2⟩ => ?_
  simp only [x_r06_within]
  refine cw_reg_seq fun K hK => ?_
  simp only [go_sem]
  refine hK _ _ ?_
  clear hK K
  refine cw_reg_postK (fun t h => t 6 = B ((decide (low ≤ n)) && (decide (n ≤ high)))) (fun K hK => ?_) ?_
  · simp only [go_sem, s0, s1, s2]
    refine ibr_intro (fun hg1 => ?_) (fun hg1 => ?_)
    · simp only [go_sem, s0, s1, s2, hg1]
      exact hK _ _ (by first | (simp only [go_sem, hg1, List.length_append, List.map_append]; done) | rfl)
    · simp only [go_sem, s0, s1, s2, hg1]
      exact hK _ _ (by first | (simp only [go_sem, hg1, List.length_append, List.map_append]; done) | rfl)
  · rintro t h s6
    simp only [cw_ret, qseq_ret, qblock_ret, retQ_ret]
    obtain rfl := hm0
    exact done_t (by simp only [go_sem, s6, List.length_append, List.map_append]) (frz_v _)

end Go.Nw.HM

namespace Go.Nw.HM
open Go.Nw.Halls
set_option linter.unusedSimpArgs false
set_option linter.unusedVariables false
set_option maxHeartbeats 4000000
variable {O : Orac}

theorem k_slices_ContainsFunc___api_Train_api_Train_ (hf : Has O "slices.ContainsFunc[[]newel/api.Train,newel/api.Train]" x_slices_ContainsFunc___api_Train_api_Train_) (k_slices_IndexFunc___api_Train_api_Train_ : C_slices_IndexFunc___api_Train_api_Train_ O) : C_slices_ContainsFunc___api_Train_api_Train_ O := by
  intro s f_n f_a f_b f f_z f_h r hm0
  unfold slices_ContainsFunc___api_Train_api_Train_ at hm0
  refine fn_cw hf rfl (fz_cons (frz_fs fun a _ => fz_eTrain a) (fz_cons f_z fz_nil)) (frz_v _) ?_
  refine cw_start (fun t h => t 0 = .fs 3 (List.map eTrain s) ∧ t 1 = .fn f_n f_a f_b) ⟨rfl, rfl⟩ fun t h ⟨s0, s1⟩ => ?_
  simp only [x_slices_ContainsFunc___api_Train_api_Train_]
  refine cw_reg_seq fun K hK => ?_
  simp only [go_sem]
  refine hK _ _ ?_
  clear hK K
  obtain ⟨y2, h_y2, hm0⟩ := bind_get hm0
  refine cw_reg_seq fun K hK => ?_
  simp only [go_sem, s0, s1]
  refine icall_fn (k_slices_IndexFunc___api_Train_api_Train_ s f_n f_a f_b f f_z f_h _ h_y2) ?_
  simp only [go_sem, s0, s1]
  refine hK _ _ ?_
  clear hK K
  simp only [cw_ret, qseq_ret, qblock_ret, retQ_ret]
  obtain rfl := Option.some.inj hm0
  exact done_t (by simp only [go_sem, List.length_append, List.map_append]) (frz_v _)

end Go.Nw.HM

namespace Go.Nw.HM
open Go.Nw.Halls
set_option linter.unusedSimpArgs false
set_option linter.unusedVariables false
set_option maxHeartbeats 4000000
variable {O : Orac}

theorem k_slices_ContainsFunc___int_int_ (hf : Has O "slices.ContainsFunc[[]int,int]" x_slices_ContainsFunc___int_int_) (k_slices_IndexFunc___int_int_ : C_slices_IndexFunc___int_int_ O) : C_slices_ContainsFunc___int_int_ O := by
  intro s f_n f_a f_b f f_z f_h r hm0
  unfold slices_ContainsFunc___int_int_ at hm0
  refine fn_cw hf rfl (fz_cons (frz_fs fun a _ => fz_eI a) (fz_cons f_z fz_nil)) (frz_v _) ?_
  refine cw_start (fun t h => t 0 = .fs 1 (List.map eI s) ∧ t 1 = .fn f_n f_a f_b) ⟨rfl, rfl⟩ fun t h ⟨s0, s1⟩ => ?_
  simp only [x_slices_ContainsFunc___int_int_]
  refine cw_reg_seq fun K hK => ?_
  simp only [go_sem]
  refine hK _ _ ?_
  clear hK K
  obtain ⟨y2, h_y2, hm0⟩ := bind_get hm0
  refine cw_reg_seq fun K hK => ?_
  simp only [go_sem, s0, s1]
  refine icall_fn (k_slices_IndexFunc___int_int_ s f_n f_a f_b f f_z f_h _ h_y2) ?_
  simp only [go_sem, s0, s1]
  refine hK _ _ ?_
  clear hK K
  simp only [cw_ret, qseq_ret, qblock_ret, retQ_ret]
  obtain rfl := Option.some.inj hm0
  exact done_t (by simp only [go_sem, List.length_append, List.map_append]) (frz_v _)

end Go.Nw.HM

namespace Go.Nw.HM
open Go.Nw.Halls
set_option linter.unusedSimpArgs false
set_option linter.unusedVariables false
set_option maxHeartbeats 4000000
variable {O : Orac}

theorem k_slices_IndexFunc___api_Train_api_Train_ (hf : Has O "slices.IndexFunc[[]newel/api.Train,newel/api.Train]" x_slices_IndexFunc___api_Train_api_Train_) : C_slices_IndexFunc___api_Train_api_Train_ O := by
  intro s f_n f_a f_b f f_z f_h r hm0
  unfold slices_IndexFunc___api_Train_api_Train_ at hm0
  refine fn_cw hf rfl (fz_cons (frz_fs fun a _ => fz_eTrain a) (fz_cons f_z fz_nil)) (frz_v _) ?_
  refine cw_start (fun t h => t 0 = .fs 3 (List.map eTrain s) ∧ t 1 = .fn f_n f_a f_b) ⟨rfl, rfl⟩ fun t h ⟨s0, s1⟩ => ?_
  simp only [x_slices_IndexFunc___api_Train_api_Train_]
  refine cw_reg_seq fun K hK => ?_
  simp only [go_sem]
  refine hK _ _ ?_
  clear hK K
  refine cw_assoc ?_
  refine cw_reg_seq fun K hK => ?_
  simp only [go_sem, s0]
  refine hK _ _ ?_
  clear hK K
  refine cw_seq_k fun K1 hK1 => ?_
  have J2 : ∀ (t : Slots) (h : Heap), slices_IndexFunc___api_Train_api_Train__j2 = some r → K1 t h := by
    intro t h hm0
    refine hK1 _ _ ?_
    unfold slices_IndexFunc___api_Train_api_Train__j2 at hm0
    refine cw_reg_seq fun K hK => ?_
    simp only [go_sem]
    refine hK _ _ ?_
    clear hK K
    simp only [cw_ret, qseq_ret, qblock_ret, retQ_ret]
    obtain rfl := Option.some.inj hm0
    exact done_t (by simp only [go_sem, List.length_append, List.map_append]) (frz_v _)
  simp only [cw_block]
  obtain ⟨b3, hl3, hm0⟩ := bind_get hm0
  refine cw_loopM hl3 (fun | x_8, t, h => t 0 = .fs 3 (List.map eTrain s) ∧ t 1 = .fn f_n f_a f_b ∧ t 7 = I (List.length s : Int) ∧ t 8 = I x_8) ?_ ?_
  · exact ⟨s0, s1, (by first | (simp only [go_sem, List.length_append, List.map_append]; done) | rfl), (by first | (simp only [go_sem, List.length_append, List.map_append]; done) | rfl)⟩
  · rintro x_8 o t h ⟨s0, s1, s7, s8⟩ hm1 hb3
    simp only [slices_IndexFunc___api_Train_api_Train__L7] at hm1
    rw [x_slices_IndexFunc___api_Train_api_Train__L7]
    refine cw_reg_seq fun K hK => ?_
    simp only [go_sem, s7, s8]
    refine hK _ _ ?_
    clear hK K
    refine cw_seq_k fun K4 hK4 => ?_
    simp only [go_sem]
    refine ibr_intro (fun hc5 => ?_) (fun hc5 => ?_)
    · rw [if_t hc5] at hm1
      simp only [cw_skip, qblock_normal, qseq_normal]
      refine hK4 _ _ ?_
      refine cw_seq_k fun K6 hK6 => ?_
      simp only [cw_block]
      refine cw_reg_seq fun K hK => ?_
      simp only [go_sem, s8]
      refine hK _ _ ?_
      clear hK K
      obtain ⟨x9, h_x9, hm1⟩ := bind_get hm1
      have h_x90 := get_nn h_x9
      have h_x91 := get_lt h_x9
      obtain ⟨y10, h_y10, hm1⟩ := bind_get hm1
      refine cw_reg_seq fun K hK => ?_
      simp only [go_sem, s0, s1, ielem_get h_x9, irow_get h_x9, h_x90, h_x91]
      refine icallv_fn (f_h x9 _ h_y10) ?_
      simp only [go_sem, s0, s1, ielem_get h_x9, irow_get h_x9, h_x90, h_x91]
      refine hK _ _ ?_
      clear hK K
      simp only [go_sem]
      refine ibr_intro (fun hc11 => ?_) (fun hc11 => ?_)
      · rw [if_t hc11] at hm1
        refine cw_reg_seq fun K hK => ?_
        simp only [go_sem]
        refine hK _ _ ?_
        clear hK K
        simp only [cw_ret, qseq_ret, qblock_ret, retQ_ret]
        obtain rfl := Option.some.inj hm1
        obtain rfl := hb3 _ rfl
        try dsimp only at hm0
        obtain rfl := Option.some.inj hm0
        exact done_t (by simp only [go_sem, List.length_append, List.map_append]) (frz_v _)
      · rw [if_f hc11] at hm1
        simp only [cw_skip, qblock_normal, qseq_normal]
        refine hK6 _ _ ?_
        refine cw_reg_k fun K hK => ?_
        simp only [go_sem, s8]
        refine hK _ _ ?_
        clear hK K
        simp only [qblock_normal, qseq_normal]
        obtain rfl := Option.some.inj hm1
        refine ⟨_, rfl, ?_⟩
        exact ⟨s0, s1, s7, (by first | (simp only [go_sem, s8, List.length_append, List.map_append]; done) | rfl)⟩
    · rw [if_f hc5] at hm1
      simp only [cw_exit, qseq_exit, qblock_same, qblock_ne, qblock_normal, qseq_normal, Nat.reduceEqDiff, not_false_eq_true]
      obtain rfl := Option.some.inj hm1
      obtain rfl := hb3 _ rfl
      try dsimp only at hm0
      exact J2  _ _  hm0

end Go.Nw.HM

namespace Go.Nw.HM
open Go.Nw.Halls
set_option linter.unusedSimpArgs false
set_option linter.unusedVariables false
set_option maxHeartbeats 4000000
variable {O : Orac}

theorem k_slices_IndexFunc___int_int_ (hf : Has O "slices.IndexFunc[[]int,int]" x_slices_IndexFunc___int_int_) : C_slices_IndexFunc___int_int_ O := by
  intro s f_n f_a f_b f f_z f_h r hm0
  unfold slices_IndexFunc___int_int_ at hm0
  refine fn_cw hf rfl (fz_cons (frz_fs fun a _ => fz_eI a) (fz_cons f_z fz_nil)) (frz_v _) ?_
  refine cw_start (fun t h => t 0 = .fs 1 (List.map eI s) ∧ t 1 = .fn f_n f_a f_b) ⟨rfl, rfl⟩ fun t h ⟨s0, s1⟩ => ?_
  simp only [x_slices_IndexFunc___int_int_]
  refine cw_reg_seq fun K hK => ?_
  simp only [go_sem]
  refine hK _ _ ?_
  clear hK K
  refine cw_assoc ?_
  refine cw_reg_seq fun K hK => ?_
  simp only [go_sem, s0]
  refine hK _ _ ?_
  clear hK K
  refine cw_seq_k fun K1 hK1 => ?_
  have J2 : ∀ (t : Slots) (h : Heap), slices_IndexFunc___int_int__j2 = some r → K1 t h := by
    intro t h hm0
    refine hK1 _ _ ?_
    unfold slices_IndexFunc___int_int__j2 at hm0
    refine cw_reg_seq fun K hK => ?_
    simp only [go_sem]
    refine hK _ _ ?_
    clear hK K
    simp only [cw_ret, qseq_ret, qblock_ret, retQ_ret]
    obtain rfl := Option.some.inj hm0
    exact done_t (by simp only [go_sem, List.length_append, List.map_append]) (frz_v _)
  simp only [cw_block]
  obtain ⟨b3, hl3, hm0⟩ := bind_get hm0
  refine cw_loopM hl3 (fun | x_8, t, h => t 0 = .fs 1 (List.map eI s) ∧ t 1 = .fn f_n f_a f_b ∧ t 7 = I (List.length s : Int) ∧ t 8 = I x_8) ?_ ?_
  · exact ⟨s0, s1, (by first | (simp only [go_sem, List.length_append, List.map_append]; done) | rfl), (by first | (simp only [go_sem, List.length_append, List.map_append]; done) | rfl)⟩
  · rintro x_8 o t h ⟨s0, s1, s7, s8⟩ hm1 hb3
    simp only [slices_IndexFunc___int_int__L7] at hm1
    rw [x_slices_IndexFunc___int_int__L7]
    refine cw_reg_seq fun K hK => ?_
    simp only [go_sem, s7, s8]
    refine hK _ _ ?_
    clear hK K
    refine cw_seq_k fun K4 hK4 => ?_
    simp only [go_sem]
    refine ibr_intro (fun hc5 => ?_) (fun hc5 => ?_)
    · rw [if_t hc5] at hm1
      simp only [cw_skip, qblock_normal, qseq_normal]
      refine hK4 _ _ ?_
      refine cw_seq_k fun K6 hK6 => ?_
      simp only [cw_block]
      refine cw_reg_seq fun K hK => ?_
      simp only [go_sem, s8]
      refine hK _ _ ?_
      clear hK K
      obtain ⟨x9, h_x9, hm1⟩ := bind_get hm1
      have h_x90 := get_nn h_x9
      have h_x91 := get_lt h_x9
      obtain ⟨y10, h_y10, hm1⟩ := bind_get hm1
      refine cw_reg_seq fun K hK => ?_
      simp only [go_sem, s0, s1, ielem_get h_x9, irow_get h_x9, h_x90, h_x91]
      refine icallv_fn (f_h x9 _ h_y10) ?_
      simp only [go_sem, s0, s1, ielem_get h_x9, irow_get h_x9, h_x90, h_x91]
      refine hK _ _ ?_
      clear hK K
      simp only [go_sem]
      refine ibr_intro (fun hc11 => ?_) (fun hc11 => ?_)
      · rw [if_t hc11] at hm1
        refine cw_reg_seq fun K hK => ?_
        simp only [go_sem]
        refine hK _ _ ?_
        clear hK K
        simp only [cw_ret, qseq_ret, qblock_ret, retQ_ret]
        obtain rfl := Option.some.inj hm1
        obtain rfl := hb3 _ rfl
        try dsimp only at hm0
        obtain rfl := Option.some.inj hm0
        exact done_t (by simp only [go_sem, List.length_append, List.map_append]) (frz_v _)
      · rw [if_f hc11] at hm1
        simp only [cw_skip, qblock_normal, qseq_normal]
        refine hK6 _ _ ?_
        refine cw_reg_k fun K hK => ?_
        simp only [go_sem, s8]
        refine hK _ _ ?_
        clear hK K
        simp only [qblock_normal, qseq_normal]
        obtain rfl := Option.some.inj hm1
        refine ⟨_, rfl, ?_⟩
        exact ⟨s0, s1, s7, (by first | (simp only [go_sem, s8, List.length_append, List.map_append]; done) | rfl)⟩
    · rw [if_f hc5] at hm1
      simp only [cw_exit, qseq_exit, qblock_same, qblock_ne, qblock_normal, qseq_normal, Nat.reduceEqDiff, not_false_eq_true]
      obtain rfl := Option.some.inj hm1
      obtain rfl := hb3 _ rfl
      try dsimp only at hm0
      exact J2  _ _  hm0

end Go.Nw.HM
