/- That the texts make what their models say: printed by a program. -/
import Derived.Test.YteoedeeljnboeaaHM
set_option linter.all false
set_option linter.unusedVariables false
set_option linter.unusedSimpArgs false
set_option linter.unusedSectionVars false
namespace Go.Nw.HM
open Go.Nw.Halls
set_option linter.unusedSimpArgs false
set_option linter.unusedVariables false
set_option maxHeartbeats 4000000
variable {O : Orac}

theorem k___halls_bound__passes (hf : Has O "(*newel/halls.bound).passes" x___halls_bound__passes) : C___halls_bound__passes O := by
  intro b from_ to_ r hm0
  unfold __halls_bound__passes at hm0
  refine fn_cw hf rfl (fz_cons (.fp _ _ (fz_cons (frz_fs fun a _ => fz_eI a) (fz_cons (frz_fs fun a _ => fz_eI a) (fz_cons (frz_fs fun a _ => fz_eI a) (fz_cons (frz_fs fun a _ => fz_eL_I a) fz_nil))))) (fz_cons (frz_v _) (fz_cons (frz_v _) fz_nil))) (frz_v _) ?_
  refine cw_start (fun t h => t 0 = .fp [.fs 1 (List.map eI b.rates), .fs 1 (List.map eI b.flow), .fs 1 (List.map eI b.most), .fs 1 (List.map eL_I b.come)] 0 ∧ t 1 = I from_ ∧ t 2 = I to_) ⟨rfl, rfl, rfl⟩ fun t h ⟨s0, s1, s2⟩ => ?_
  simp only [x___halls_bound__passes]
  refine cw_reg_seq fun K hK => ?_
  simp only [go_sem]
  refine hK _ _ ?_
  clear hK K
  refine cw_assoc ?_
  refine cw_reg_postK (fun t h => t 0 = .fp [.fs 1 (List.map eI b.rates), .fs 1 (List.map eI b.flow), .fs 1 (List.map eI b.most), .fs 1 (List.map eL_I b.come)] 0 ∧ t 1 = I from_ ∧ t 2 = I to_ ∧ t 16 = B ((decide (to_ < from_)) || (decide (to_ < 0)))) (fun K hK => ?_) ?_
  · simp only [go_sem, s1, s2]
    refine ibr_intro (fun hg1 => ?_) (fun hg1 => ?_)
    · simp only [go_sem, s1, s2, hg1]
      exact hK _ _ ⟨s0, s1, s2, (by first | (simp only [go_sem, hg1, List.length_append, List.map_append]; done) | rfl)⟩
    · simp only [go_sem, s1, s2, hg1]
      exact hK _ _ ⟨s0, s1, s2, (by first | (simp only [go_sem, hg1, List.length_append, List.map_append]; done) | rfl)⟩
  · rintro t h ⟨s0, s1, s2, s16⟩
    refine cw_seq_k fun K2 hK2 => ?_
    simp only [go_sem, s16]
    refine ibr_intro (fun hc3 => ?_) (fun hc3 => ?_)
    · rw [if_t hc3] at hm0
      refine cw_reg_seq fun K hK => ?_
      simp only [go_sem]
      refine hK _ _ ?_
      clear hK K
      simp only [cw_ret, qseq_ret, qblock_ret, retQ_ret]
      obtain rfl := Option.some.inj hm0
      exact done_t (by simp only [go_sem, List.length_append, List.map_append]) (frz_v _)
    · rw [if_f hc3] at hm0
      simp only [cw_skip, qblock_normal, qseq_normal]
      refine hK2 _ _ ?_
      refine cw_reg_seq fun K hK => ?_
      simp only [go_sem, s1]
      refine hK _ _ ?_
      clear hK K
      obtain ⟨x8, h_x8, hm0⟩ := bind_get hm0
      have h_x80 := get_nn h_x8
      have h_x81 := get_lt h_x8
      obtain ⟨x9, h_x9, hm0⟩ := bind_get hm0
      have h_x90 := get_nn h_x9
      have h_x91 := get_lt h_x9
      obtain ⟨x10, h_x10, hm0⟩ := bind_get hm0
      have h_x100 := get_nn h_x10
      have h_x101 := get_lt h_x10
      obtain ⟨x11, h_x11, hm0⟩ := bind_get hm0
      have h_x110 := get_nn h_x11
      have h_x111 := get_lt h_x11
      refine cw_reg_seq fun K hK => ?_
      simp only [go_sem, s0, s1, s2, ielem_get h_x8, irow_get h_x8, h_x80, h_x81, ielem_get h_x9, irow_get h_x9, h_x90, h_x91, ielem_get h_x10, irow_get h_x10, h_x100, h_x101, ielem_get h_x11, irow_get h_x11, h_x110, h_x111]
      refine hK _ _ ?_
      clear hK K
      refine cw_assoc ?_
      refine cw_reg_seq fun K hK => ?_
      simp only [go_sem, s1]
      refine hK _ _ ?_
      clear hK K
      refine cw_seq_k fun K12 hK12 => ?_
      have J13 : ∀ (least_7 : Int) (t : Slots) (h : Heap), t 7 = I least_7 → __halls_bound__passes_j13 least_7 = some r → K12 t h := by
        intro least_7 t h s7 hm0
        refine hK12 _ _ ?_
        unfold __halls_bound__passes_j13 at hm0
        refine cw_reg_seq fun K hK => ?_
        simp only [go_sem, s7]
        refine hK _ _ ?_
        clear hK K
        simp only [cw_ret, qseq_ret, qblock_ret, retQ_ret]
        obtain rfl := Option.some.inj hm0
        exact done_t (by simp only [go_sem, List.length_append, List.map_append]) (frz_v _)
      simp only [cw_block]
      obtain ⟨b14, hl14, hm0⟩ := bind_get hm0
      refine cw_loopM hl14 (fun | (least_7, k_8), t, h => t 0 = .fp [.fs 1 (List.map eI b.rates), .fs 1 (List.map eI b.flow), .fs 1 (List.map eI b.most), .fs 1 (List.map eL_I b.come)] 0 ∧ t 1 = I (mx from_ 0) ∧ t 2 = I to_ ∧ t 7 = I least_7 ∧ t 8 = I k_8) ?_ ?_
      · exact ⟨s0, (by first | (simp only [go_sem, s1, List.length_append, List.map_append]; done) | rfl), s2, (by first | (simp only [go_sem, List.length_append, List.map_append]; done) | rfl), (by first | (simp only [go_sem, List.length_append, List.map_append]; done) | rfl)⟩
      · rintro ⟨least_7, k_8⟩ o t h ⟨s0, s1, s2, s7, s8⟩ hm1 hb14
        simp only [__halls_bound__passes_L12] at hm1
        rw [x___halls_bound__passes_L12]
        refine cw_assoc ?_
        refine cw_reg_seq fun K hK => ?_
        simp only [go_sem, s2, s8]
        refine hK _ _ ?_
        clear hK K
        refine cw_seq_k fun K15 hK15 => ?_
        simp only [go_sem]
        refine ibr_intro (fun hc16 => ?_) (fun hc16 => ?_)
        · rw [if_t hc16] at hm1
          simp only [cw_skip, qblock_normal, qseq_normal]
          refine hK15 _ _ ?_
          refine cw_seq_k fun K17 hK17 => ?_
          simp only [cw_block]
          refine cw_reg_seq fun K hK => ?_
          simp only [go_sem]
          refine hK _ _ ?_
          clear hK K
          refine cw_assoc ?_
          refine cw_reg_seq fun K hK => ?_
          simp only [go_sem, s2, s8]
          refine hK _ _ ?_
          clear hK K
          refine cw_seq_k fun K18 hK18 => ?_
          have J19 : ∀ (behind_9 : Int) (t : Slots) (h : Heap), t 0 = .fp [.fs 1 (List.map eI b.rates), .fs 1 (List.map eI b.flow), .fs 1 (List.map eI b.most), .fs 1 (List.map eL_I b.come)] 0 → t 1 = I (mx from_ 0) → t 2 = I to_ → t 7 = I least_7 → t 8 = I k_8 → t 9 = I behind_9 → __halls_bound__passes_j19 b from_ least_7 k_8 behind_9 = some o → K18 t h := by
            intro behind_9 t h s0 s1 s2 s7 s8 s9 hm1
            refine hK18 _ _ ?_
            unfold __halls_bound__passes_j19 at hm1
            obtain ⟨x23, h_x23, hm1⟩ := bind_get hm1
            have h_x230 := get_nn h_x23
            have h_x231 := get_lt h_x23
            obtain ⟨x24, h_x24, hm1⟩ := bind_get hm1
            have h_x240 := get_nn h_x24
            have h_x241 := get_lt h_x24
            obtain ⟨x25, h_x25, hm1⟩ := bind_get hm1
            have h_x250 := get_nn h_x25
            have h_x251 := get_lt h_x25
            refine cw_reg_k fun K hK => ?_
            simp only [go_sem, s0, s1, s7, s8, s9, ielem_get h_x23, irow_get h_x23, h_x230, h_x231, ielem_get h_x24, irow_get h_x24, h_x240, h_x241, ielem_get h_x25, irow_get h_x25, h_x250, h_x251]
            refine hK _ _ ?_
            clear hK K
            simp only [qblock_normal, qseq_normal]
            refine hK17 _ _ ?_
            refine cw_reg_k fun K hK => ?_
            simp only [go_sem, s8]
            refine hK _ _ ?_
            clear hK K
            simp only [qblock_normal, qseq_normal]
            obtain rfl := Option.some.inj hm1
            refine ⟨_, rfl, ?_⟩
            exact ⟨s0, s1, s2, (by first | (simp only [go_sem, s7, List.length_append, List.map_append]; done) | rfl), (by first | (simp only [go_sem, s8, List.length_append, List.map_append]; done) | rfl)⟩
          simp only [go_sem]
          refine ibr_intro (fun hc26 => ?_) (fun hc26 => ?_)
          · rw [if_t hc26] at hm1
            obtain ⟨x29, h_x29, hm1⟩ := bind_get hm1
            have h_x290 := get_nn h_x29
            have h_x291 := get_lt h_x29
            obtain ⟨x30, h_x30, hm1⟩ := bind_get hm1
            have h_x300 := get_nn h_x30
            have h_x301 := get_lt h_x30
            refine cw_reg_k fun K hK => ?_
            simp only [go_sem, s0, s2, s8, ielem_get h_x29, irow_get h_x29, h_x290, h_x291, ielem_get h_x30, irow_get h_x30, h_x300, h_x301]
            refine hK _ _ ?_
            clear hK K
            simp only [qblock_normal, qseq_normal]
            exact J19 x30 _ _ s0 s1 s2 s7 s8 (by first | (simp only [go_sem, List.length_append, List.map_append]; done) | rfl) hm1
          · rw [if_f hc26] at hm1
            simp only [cw_skip, qblock_normal, qseq_normal]
            exact J19 0 _ _ s0 s1 s2 s7 s8 (by first | (simp only [go_sem, List.length_append, List.map_append]; done) | rfl) hm1
        · rw [if_f hc16] at hm1
          simp only [cw_exit, qseq_exit, qblock_same, qblock_ne, qblock_normal, qseq_normal, Nat.reduceEqDiff, not_false_eq_true]
          obtain rfl := Option.some.inj hm1
          obtain rfl := hb14 _ rfl
          try dsimp only at hm0
          exact J13 least_7 _ _ s7 hm0

end Go.Nw.HM

namespace Go.Nw.HM
open Go.Nw.Halls
set_option linter.unusedSimpArgs false
set_option linter.unusedVariables false
set_option maxHeartbeats 4000000
variable {O : Orac}

theorem k_halls_Check (hf : Has O "newel/halls.Check" x_halls_Check) (k_halls_isComb : C_halls_isComb O) (k_slices_ContainsFunc___api_Train_api_Train_ : C_slices_ContainsFunc___api_Train_api_Train_ O) (k_halls_CheckD1 : C_halls_CheckD1 O) (k_halls_in : C_halls_in O) : C_halls_Check O := by
  intro h_ r hm0
  unfold halls_Check at hm0
  refine fn_cw hf rfl (fz_cons (.agg _ (fz_cons (frz_fs fun a _ => fz_eComb a) (fz_cons (frz_fs fun a _ => fz_eTrain a) (fz_cons (frz_fs fun a _ => fz_eShift a) (fz_cons (frz_v _) fz_nil))))) fz_nil) (frz_v _) ?_
  refine cw_start (fun t h => t 0 = .agg [.fs 5 (List.map eComb h_.Combs), .fs 3 (List.map eTrain h_.Trains), .fs 3 (List.map eShift h_.Shifts), I h_.Until]) rfl fun t h s0 => ?_
  simp only [x_halls_Check]
  refine cw_reg_seq fun K hK => ?_
  simp only [go_sem, s0]
  refine hK _ _ ?_
  clear hK K
  refine cw_assoc ?_
  refine cw_reg_postK (fun t h => t 1 = .fp [.fs 5 (List.map eComb h_.Combs), .fs 3 (List.map eTrain h_.Trains), .fs 3 (List.map eShift h_.Shifts), I h_.Until] 0 ∧ t 37 = B ((((((decide (h_.Until < 1)) || (decide (100 < h_.Until))) || (decide ((List.length h_.Combs : Int) < 1))) || (decide (8 < (List.length h_.Combs : Int)))) || (decide (12 < (List.length h_.Trains : Int)))) || (decide (20 < (List.length h_.Shifts : Int))))) (fun K hK => ?_) ?_
  · simp only [go_sem]
    refine ibr_intro (fun hg1 => ?_) (fun hg1 => ?_)
    · simp only [go_sem, hg1]
      exact hK _ _ ⟨(by first | (simp only [go_sem, hg1, List.length_append, List.map_append]; done) | rfl), (by first | (simp only [go_sem, hg1, List.length_append, List.map_append]; done) | rfl)⟩
    · simp only [go_sem, hg1]
      refine ibr_intro (fun hg2 => ?_) (fun hg2 => ?_)
      · simp only [go_sem, hg1, hg2]
        exact hK _ _ ⟨(by first | (simp only [go_sem, hg1, hg2, List.length_append, List.map_append]; done) | rfl), (by first | (simp only [go_sem, hg1, hg2, List.length_append, List.map_append]; done) | rfl)⟩
      · simp only [go_sem, hg1, hg2]
        refine ibr_intro (fun hg3 => ?_) (fun hg3 => ?_)
        · simp only [go_sem, hg1, hg2, hg3]
          exact hK _ _ ⟨(by first | (simp only [go_sem, hg1, hg2, hg3, List.length_append, List.map_append]; done) | rfl), (by first | (simp only [go_sem, hg1, hg2, hg3, List.length_append, List.map_append]; done) | rfl)⟩
        · simp only [go_sem, hg1, hg2, hg3]
          refine ibr_intro (fun hg4 => ?_) (fun hg4 => ?_)
          · simp only [go_sem, hg1, hg2, hg3, hg4]
            exact hK _ _ ⟨(by first | (simp only [go_sem, hg1, hg2, hg3, hg4, List.length_append, List.map_append]; done) | rfl), (by first | (simp only [go_sem, hg1, hg2, hg3, hg4, List.length_append, List.map_append]; done) | rfl)⟩
          · simp only [go_sem, hg1, hg2, hg3, hg4]
            refine ibr_intro (fun hg5 => ?_) (fun hg5 => ?_)
            · simp only [go_sem, hg1, hg2, hg3, hg4, hg5]
              exact hK _ _ ⟨(by first | (simp only [go_sem, hg1, hg2, hg3, hg4, hg5, List.length_append, List.map_append]; done) | rfl), (by first | (simp only [go_sem, hg1, hg2, hg3, hg4, hg5, List.length_append, List.map_append]; done) | rfl)⟩
            · simp only [go_sem, hg1, hg2, hg3, hg4, hg5]
              exact hK _ _ ⟨(by first | (simp only [go_sem, hg1, hg2, hg3, hg4, hg5, List.length_append, List.map_append]; done) | rfl), (by first | (simp only [go_sem, hg1, hg2, hg3, hg4, hg5, List.length_append, List.map_append]; done) | rfl)⟩
  · rintro t h ⟨s1, s37⟩
    refine cw_seq_k fun K6 hK6 => ?_
    simp only [go_sem, s37]
    refine ibr_intro (fun hc7 => ?_) (fun hc7 => ?_)
    · rw [if_t hc7] at hm0
      refine cw_reg_seq fun K hK => ?_
      simp only [go_sem]
      refine hK _ _ ?_
      clear hK K
      simp only [cw_ret, qseq_ret, qblock_ret, retQ_ret]
      obtain rfl := Option.some.inj hm0
      exact done_t (by simp only [go_sem, List.length_append, List.map_append]) (frz_v _)
    · rw [if_f hc7] at hm0
      simp only [cw_skip, qblock_normal, qseq_normal]
      refine hK6 _ _ ?_
      refine cw_assoc ?_
      refine cw_reg_seq fun K hK => ?_
      simp only [go_sem, s1]
      refine hK _ _ ?_
      clear hK K
      refine cw_seq_k fun K8 hK8 => ?_
      have J9 : ∀ (t : Slots) (h : Heap), t 1 = .fp [.fs 5 (List.map eComb h_.Combs), .fs 3 (List.map eTrain h_.Trains), .fs 3 (List.map eShift h_.Shifts), I h_.Until] 0 → halls_Check_j9 h_ = some r → K8 t h := by
        intro t h s1 hm0
        refine hK8 _ _ ?_
        unfold halls_Check_j9 at hm0
        refine cw_assoc ?_
        obtain ⟨y13, h_y13, hm0⟩ := bind_get hm0
        refine cw_reg_seq fun K hK => ?_
        simp only [go_sem, s1]
        refine icall_fn (k_slices_ContainsFunc___api_Train_api_Train_ h_.Trains "newel/halls.Check$1" [] [.fp [.fs 5 (List.map eComb h_.Combs), .fs 3 (List.map eTrain h_.Trains), .fs 3 (List.map eShift h_.Shifts), I h_.Until] 0] (fun z12 => halls_CheckD1 z12 h_) (.fn _ _ _ fz_nil (fz_cons (.fp _ _ (fz_cons (frz_fs fun a _ => fz_eComb a) (fz_cons (frz_fs fun a _ => fz_eTrain a) (fz_cons (frz_fs fun a _ => fz_eShift a) (fz_cons (frz_v _) fz_nil))))) fz_nil)) (fun z0 y hz => k_halls_CheckD1 z0 h_ y hz) _ h_y13) ?_
        simp only [go_sem, s1]
        refine hK _ _ ?_
        clear hK K
        refine cw_seq_k fun K14 hK14 => ?_
        simp only [go_sem]
        refine ibr_intro (fun hc15 => ?_) (fun hc15 => ?_)
        · rw [if_t hc15] at hm0
          refine cw_reg_seq fun K hK => ?_
          simp only [go_sem]
          refine hK _ _ ?_
          clear hK K
          simp only [cw_ret, qseq_ret, qblock_ret, retQ_ret]
          obtain rfl := Option.some.inj hm0
          exact done_t (by simp only [go_sem, List.length_append, List.map_append]) (frz_v _)
        · rw [if_f hc15] at hm0
          simp only [cw_skip, qblock_normal, qseq_normal]
          refine hK14 _ _ ?_
          refine cw_assoc ?_
          refine cw_reg_seq fun K hK => ?_
          simp only [go_sem, s1]
          refine hK _ _ ?_
          clear hK K
          refine cw_seq_k fun K16 hK16 => ?_
          have J17 : ∀ (t : Slots) (h : Heap), halls_Check_j17 = some r → K16 t h := by
            intro t h hm0
            refine hK16 _ _ ?_
            unfold halls_Check_j17 at hm0
            refine cw_reg_seq fun K hK => ?_
            simp only [go_sem]
            refine hK _ _ ?_
            clear hK K
            simp only [cw_ret, qseq_ret, qblock_ret, retQ_ret]
            obtain rfl := Option.some.inj hm0
            exact done_t (by simp only [go_sem, List.length_append, List.map_append]) (frz_v _)
          simp only [cw_block]
          obtain ⟨b18, hl18, hm0⟩ := bind_get hm0
          refine cw_loopM hl18 (fun | x_56, t, h => t 1 = .fp [.fs 5 (List.map eComb h_.Combs), .fs 3 (List.map eTrain h_.Trains), .fs 3 (List.map eShift h_.Shifts), I h_.Until] 0 ∧ t 54 = .fs 3 (List.map eShift h_.Shifts) ∧ t 55 = I (List.length h_.Shifts : Int) ∧ t 56 = I x_56) ?_ ?_
          · exact ⟨s1, (by first | (simp only [go_sem, List.length_append, List.map_append]; done) | rfl), (by first | (simp only [go_sem, List.length_append, List.map_append]; done) | rfl), (by first | (simp only [go_sem, List.length_append, List.map_append]; done) | rfl)⟩
          · rintro x_56 o t h ⟨s1, s54, s55, s56⟩ hm1 hb18
            simp only [halls_Check_L18] at hm1
            rw [x_halls_Check_L18]
            refine cw_reg_seq fun K hK => ?_
            simp only [go_sem, s55, s56]
            refine hK _ _ ?_
            clear hK K
            refine cw_seq_k fun K19 hK19 => ?_
            simp only [go_sem]
            refine ibr_intro (fun hc20 => ?_) (fun hc20 => ?_)
            · rw [if_t hc20] at hm1
              simp only [cw_skip, qblock_normal, qseq_normal]
              refine hK19 _ _ ?_
              refine cw_seq_k fun K21 hK21 => ?_
              simp only [cw_block]
              obtain ⟨x23, h_x23, hm1⟩ := bind_get hm1
              have h_x230 := get_nn h_x23
              have h_x231 := get_lt h_x23
              refine cw_reg_seq fun K hK => ?_
              simp only [go_sem, s54, s56, ielem_get h_x23, irow_get h_x23, h_x230, h_x231]
              refine hK _ _ ?_
              clear hK K
              obtain ⟨c29, h_c29, hm1⟩ := bind_get hm1
              refine cw_reg_postK (fun t h => t 1 = .fp [.fs 5 (List.map eComb h_.Combs), .fs 3 (List.map eTrain h_.Trains), .fs 3 (List.map eShift h_.Shifts), I h_.Until] 0 ∧ t 54 = .fs 3 (List.map eShift h_.Shifts) ∧ t 55 = I (List.length h_.Shifts : Int) ∧ t 56 = I x_56 ∧ t 106 = B (((c29 || (decide (x23.Comb < 0))) || (decide ((List.length h_.Combs : Int) ≤ x23.Comb))) || (!(halls_in x23.Rate (Span.mk 0 1000))))) (fun K hK => ?_) ?_
              · simp only [go_sem, s1]
                refine ibr_intro (fun hg30 => ?_) (fun hg30 => ?_)
                · simp only [hg30, Bool.not_true, Bool.not_false, eq_self, if_true, if_false, Bool.true_or, Bool.or_true, Bool.false_or, Bool.or_false, Bool.true_and, Bool.and_true, Bool.false_and, Bool.and_false, Bool.false_eq_true] at h_c29
                  obtain rfl := Option.some.inj h_c29
                  simp only [go_sem, s1, hg30]
                  exact hK _ _ ⟨s1, s54, s55, s56, (by first | (simp only [go_sem, hg30, List.length_append, List.map_append]; done) | rfl)⟩
                · simp only [go_sem, s1, hg30]
                  refine ibr_intro (fun hg31 => ?_) (fun hg31 => ?_)
                  · simp only [hg30, hg31, Bool.not_true, Bool.not_false, eq_self, if_true, if_false, Bool.true_or, Bool.or_true, Bool.false_or, Bool.or_false, Bool.true_and, Bool.and_true, Bool.false_and, Bool.and_false, Bool.false_eq_true] at h_c29
                    obtain rfl := Option.some.inj h_c29
                    simp only [go_sem, s1, hg30, hg31]
                    exact hK _ _ ⟨s1, s54, s55, s56, (by first | (simp only [go_sem, hg30, hg31, List.length_append, List.map_append]; done) | rfl)⟩
                  · simp only [hg30, hg31, Bool.not_true, Bool.not_false, eq_self, if_true, if_false, Bool.true_or, Bool.or_true, Bool.false_or, Bool.or_false, Bool.true_and, Bool.and_true, Bool.false_and, Bool.and_false, Bool.false_eq_true] at h_c29
                    obtain ⟨c28, h_c28, h_c29⟩ := bind_get h_c29
                    obtain rfl := Option.some.inj h_c29
                    simp only [go_sem, s1, hg30, hg31]
                    refine ibr_intro (fun hg32 => ?_) (fun hg32 => ?_)
                    · simp only [hg30, hg31, hg32, Bool.not_true, Bool.not_false, eq_self, if_true, if_false, Bool.true_or, Bool.or_true, Bool.false_or, Bool.or_false, Bool.true_and, Bool.and_true, Bool.false_and, Bool.and_false, Bool.false_eq_true] at h_c28
                      obtain ⟨x27, h_x27, h_c28⟩ := bind_get h_c28
                      have h_x270 := get_nn h_x27
                      have h_x271 := get_lt h_x27
                      obtain rfl := Option.some.inj h_c28
                      simp only [go_sem, s1, ielem_get h_x27, irow_get h_x27, h_x270, h_x271, hg30, hg31, hg32]
                      refine ibr_intro (fun hg33 => ?_) (fun hg33 => ?_)
                      · simp only [go_sem, s1, ielem_get h_x27, irow_get h_x27, h_x270, h_x271, hg30, hg31, hg32, hg33]
                        exact hK _ _ ⟨s1, s54, s55, s56, (by first | (simp only [go_sem, hg30, hg31, hg32, hg33, List.length_append, List.map_append]; done) | rfl)⟩
                      · simp only [go_sem, s1, ielem_get h_x27, irow_get h_x27, h_x270, h_x271, hg30, hg31, hg32, hg33]
                        refine ibr_intro (fun hg34 => ?_) (fun hg34 => ?_)
                        · simp only [go_sem, s1, ielem_get h_x27, irow_get h_x27, h_x270, h_x271, hg30, hg31, hg32, hg33, hg34]
                          exact hK _ _ ⟨s1, s54, s55, s56, (by first | (simp only [go_sem, hg30, hg31, hg32, hg33, hg34, List.length_append, List.map_append]; done) | rfl)⟩
                        · simp only [go_sem, s1, ielem_get h_x27, irow_get h_x27, h_x270, h_x271, hg30, hg31, hg32, hg33, hg34]
                          refine ibr_intro (fun hg35 => ?_) (fun hg35 => ?_)
                          · simp only [go_sem, s1, ielem_get h_x27, irow_get h_x27, h_x270, h_x271, hg30, hg31, hg32, hg33, hg34, hg35]
                            exact hK _ _ ⟨s1, s54, s55, s56, (by first | (simp only [go_sem, hg30, hg31, hg32, hg33, hg34, hg35, List.length_append, List.map_append]; done) | rfl)⟩
                          · simp only [go_sem, s1, ielem_get h_x27, irow_get h_x27, h_x270, h_x271, hg30, hg31, hg32, hg33, hg34, hg35]
                            refine icall_fn (k_halls_in x23.Rate (Span.mk 0 1000)) ?_
                            simp only [go_sem, s1, ielem_get h_x27, irow_get h_x27, h_x270, h_x271, hg30, hg31, hg32, hg33, hg34, hg35]
                            exact hK _ _ ⟨s1, s54, s55, s56, (by first | (simp only [go_sem, hg30, hg31, hg32, hg33, hg34, hg35, List.length_append, List.map_append]; done) | rfl)⟩
                    · simp only [hg30, hg31, hg32, Bool.not_true, Bool.not_false, eq_self, if_true, if_false, Bool.true_or, Bool.or_true, Bool.false_or, Bool.or_false, Bool.true_and, Bool.and_true, Bool.false_and, Bool.and_false, Bool.false_eq_true] at h_c28
                      obtain rfl := Option.some.inj h_c28
                      simp only [go_sem, s1, hg30, hg31, hg32]
                      refine ibr_intro (fun hg36 => ?_) (fun hg36 => ?_)
                      · simp only [go_sem, s1, hg30, hg31, hg32, hg36]
                        exact hK _ _ ⟨s1, s54, s55, s56, (by first | (simp only [go_sem, hg30, hg31, hg32, hg36, List.length_append, List.map_append]; done) | rfl)⟩
                      · simp only [go_sem, s1, hg30, hg31, hg32, hg36]
                        refine ibr_intro (fun hg37 => ?_) (fun hg37 => ?_)
                        · simp only [go_sem, s1, hg30, hg31, hg32, hg36, hg37]
                          exact hK _ _ ⟨s1, s54, s55, s56, (by first | (simp only [go_sem, hg30, hg31, hg32, hg36, hg37, List.length_append, List.map_append]; done) | rfl)⟩
                        · simp only [go_sem, s1, hg30, hg31, hg32, hg36, hg37]
                          refine icall_fn (k_halls_in x23.Rate (Span.mk 0 1000)) ?_
                          simp only [go_sem, s1, hg30, hg31, hg32, hg36, hg37]
                          exact hK _ _ ⟨s1, s54, s55, s56, (by first | (simp only [go_sem, hg30, hg31, hg32, hg36, hg37, List.length_append, List.map_append]; done) | rfl)⟩
              · rintro t h ⟨s1, s54, s55, s56, s106⟩
                simp only [go_sem, s106]
                refine ibr_intro (fun hc38 => ?_) (fun hc38 => ?_)
                · rw [if_t hc38] at hm1
                  refine cw_reg_seq fun K hK => ?_
                  simp only [go_sem]
                  refine hK _ _ ?_
                  clear hK K
                  simp only [cw_ret, qseq_ret, qblock_ret, retQ_ret]
                  obtain rfl := Option.some.inj hm1
                  obtain rfl := hb18 _ rfl
                  try dsimp only at hm0
                  obtain rfl := Option.some.inj hm0
                  exact done_t (by simp only [go_sem, List.length_append, List.map_append]) (frz_v _)
                · rw [if_f hc38] at hm1
                  simp only [cw_skip, qblock_normal, qseq_normal]
                  refine hK21 _ _ ?_
                  refine cw_reg_k fun K hK => ?_
                  simp only [go_sem, s56]
                  refine hK _ _ ?_
                  clear hK K
                  simp only [qblock_normal, qseq_normal]
                  obtain rfl := Option.some.inj hm1
                  refine ⟨_, rfl, ?_⟩
                  exact ⟨s1, s54, s55, (by first | (simp only [go_sem, s56, List.length_append, List.map_append]; done) | rfl)⟩
            · rw [if_f hc20] at hm1
              simp only [cw_exit, qseq_exit, qblock_same, qblock_ne, qblock_normal, qseq_normal, Nat.reduceEqDiff, not_false_eq_true]
              obtain rfl := Option.some.inj hm1
              obtain rfl := hb18 _ rfl
              try dsimp only at hm0
              exact J17  _ _  hm0
      simp only [cw_block]
      obtain ⟨b40, hl40, hm0⟩ := bind_get hm0
      refine cw_loopM hl40 (fun | x_41, t, h => t 1 = .fp [.fs 5 (List.map eComb h_.Combs), .fs 3 (List.map eTrain h_.Trains), .fs 3 (List.map eShift h_.Shifts), I h_.Until] 0 ∧ t 40 = I (List.length h_.Combs : Int) ∧ t 41 = I x_41) ?_ ?_
      · exact ⟨s1, (by first | (simp only [go_sem, List.length_append, List.map_append]; done) | rfl), (by first | (simp only [go_sem, List.length_append, List.map_append]; done) | rfl)⟩
      · rintro x_41 o t h ⟨s1, s40, s41⟩ hm1 hb40
        simp only [halls_Check_L9] at hm1
        rw [x_halls_Check_L9]
        refine cw_reg_seq fun K hK => ?_
        simp only [go_sem, s40, s41]
        refine hK _ _ ?_
        clear hK K
        refine cw_seq_k fun K41 hK41 => ?_
        simp only [go_sem]
        refine ibr_intro (fun hc42 => ?_) (fun hc42 => ?_)
        · rw [if_t hc42] at hm1
          simp only [cw_skip, qblock_normal, qseq_normal]
          refine hK41 _ _ ?_
          refine cw_seq_k fun K43 hK43 => ?_
          simp only [cw_block]
          refine cw_reg_seq fun K hK => ?_
          simp only [go_sem, s41]
          refine hK _ _ ?_
          clear hK K
          obtain ⟨y45, h_y45, hm1⟩ := bind_get hm1
          refine cw_reg_seq fun K hK => ?_
          simp only [go_sem, s1]
          refine icall_fn (k_halls_isComb h_ x_41 _ h_y45) ?_
          simp only [go_sem, s1]
          refine hK _ _ ?_
          clear hK K
          simp only [go_sem]
          refine ibr_intro (fun hc46 => ?_) (fun hc46 => ?_)
          · rw [if_t hc46] at hm1
            refine cw_reg_seq fun K hK => ?_
            simp only [go_sem]
            refine hK _ _ ?_
            clear hK K
            simp only [cw_ret, qseq_ret, qblock_ret, retQ_ret]
            obtain rfl := Option.some.inj hm1
            obtain rfl := hb40 _ rfl
            try dsimp only at hm0
            obtain rfl := Option.some.inj hm0
            exact done_t (by simp only [go_sem, List.length_append, List.map_append]) (frz_v _)
          · rw [if_f hc46] at hm1
            simp only [cw_skip, qblock_normal, qseq_normal]
            refine hK43 _ _ ?_
            refine cw_reg_k fun K hK => ?_
            simp only [go_sem, s41]
            refine hK _ _ ?_
            clear hK K
            simp only [qblock_normal, qseq_normal]
            obtain rfl := Option.some.inj hm1
            refine ⟨_, rfl, ?_⟩
            exact ⟨s1, s40, (by first | (simp only [go_sem, s41, List.length_append, List.map_append]; done) | rfl)⟩
        · rw [if_f hc42] at hm1
          simp only [cw_exit, qseq_exit, qblock_same, qblock_ne, qblock_normal, qseq_normal, Nat.reduceEqDiff, not_false_eq_true]
          obtain rfl := Option.some.inj hm1
          obtain rfl := hb40 _ rfl
          try dsimp only at hm0
          exact J9  _ _ s1 hm0

end Go.Nw.HM

namespace Go.Nw.HM
open Go.Nw.Halls
set_option linter.unusedSimpArgs false
set_option linter.unusedVariables false
set_option maxHeartbeats 4000000
variable {O : Orac}

theorem k_halls_CheckD1 (hf : Has O "newel/halls.Check$1" x_halls_CheckD1) (k_halls_isTrain : C_halls_isTrain O) : C_halls_CheckD1 O := by
  intro t_ c0 r hm0
  unfold halls_CheckD1 at hm0
  refine fn_cw hf rfl (fz_cons (.agg _ (fz_cons (frz_v _) (fz_cons (frz_v _) (fz_cons (frz_fs fun a _ => fz_eCrowd a) fz_nil)))) (fz_cons (.fp _ _ (fz_cons (frz_fs fun a _ => fz_eComb a) (fz_cons (frz_fs fun a _ => fz_eTrain a) (fz_cons (frz_fs fun a _ => fz_eShift a) (fz_cons (frz_v _) fz_nil))))) fz_nil)) (frz_v _) ?_
  refine cw_start (fun t h => t 0 = .agg [I t_.At.Low, I t_.At.High, .fs 3 (List.map eCrowd t_.Crowds)] ∧ t 1 = .fp [.fs 5 (List.map eComb c0.Combs), .fs 3 (List.map eTrain c0.Trains), .fs 3 (List.map eShift c0.Shifts), I c0.Until] 0) ⟨rfl, rfl⟩ fun t h ⟨s0, s1⟩ => ?_
  simp only [x_halls_CheckD1]
  refine cw_reg_seq fun K hK => ?_
  simp only [go_sem, s0]
  refine hK _ _ ?_
  clear hK K
  obtain ⟨y2, h_y2, hm0⟩ := bind_get hm0
  refine cw_reg_seq fun K hK => ?_
  simp only [go_sem, s1]
  refine icall_fn (k_halls_isTrain c0 t_ _ h_y2) ?_
  simp only [go_sem, s1]
  refine hK _ _ ?_
  clear hK K
  simp only [cw_ret, qseq_ret, qblock_ret, retQ_ret]
  obtain rfl := Option.some.inj hm0
  exact done_t (by simp only [go_sem, List.length_append, List.map_append]) (frz_v _)

end Go.Nw.HM

namespace Go.Nw.HM
open Go.Nw.Halls
set_option linter.unusedSimpArgs false
set_option linter.unusedVariables false
set_option maxHeartbeats 4000000
variable {O : Orac}

theorem k_halls_Guard (hf : Has O "newel/halls.Guard" x_halls_Guard) (k_halls_check : C_halls_check O) (k_halls_open_w : C_halls_open_w O) (k_halls_bounds_w : C_halls_bounds_w O) (k_halls_over : C_halls_over O) : C_halls_Guard O := by
  intro h_ comb from_ r hm0
  unfold halls_Guard at hm0
  refine fn_cw hf rfl (fz_cons (.agg _ (fz_cons (frz_fs fun a _ => fz_eComb a) (fz_cons (frz_fs fun a _ => fz_eTrain a) (fz_cons (frz_fs fun a _ => fz_eShift a) (fz_cons (frz_v _) fz_nil))))) (fz_cons (frz_v _) (fz_cons (frz_v _) fz_nil))) (.tup _ (fz_cons (frz_v _) (fz_cons (frz_v _) fz_nil))) ?_
  refine cw_start (fun t h => t 0 = .agg [.fs 5 (List.map eComb h_.Combs), .fs 3 (List.map eTrain h_.Trains), .fs 3 (List.map eShift h_.Shifts), I h_.Until] ∧ t 1 = I comb ∧ t 2 = I from_) ⟨rfl, rfl, rfl⟩ fun t h ⟨s0, s1, s2⟩ => ?_
  simp only [x_halls_Guard]
  refine cw_reg_seq fun K hK => ?_
  simp only [go_sem, s0]
  refine hK _ _ ?_
  clear hK K
  refine cw_assoc ?_
  obtain ⟨y2, h_y2, hm0⟩ := bind_get hm0
  refine cw_reg_seq fun K hK => ?_
  simp only [go_sem, s1, s2]
  refine icall_fz ?_ (k_halls_check h_ comb ([from_]) _ h_y2) (.v _) ?_
  · exact .cons (.refl _ (.agg _ (fz_cons (frz_fs fun a _ => fz_eComb a) (fz_cons (frz_fs fun a _ => fz_eTrain a) (fz_cons (frz_fs fun a _ => fz_eShift a) (fz_cons (frz_v _) fz_nil)))))) (.cons (.refl _ (frz_v _)) (.cons (fz_rs (f := eI) (l := ([from_])) (id := h.nx) (by simp only [go_sem, List.length_append, List.map_append]) (by first | rfl | simp only [go_sem, List.length_append, List.map_append]) fz_eI ln_eI) (.nil)))
  simp only [go_sem, s1, s2]
  refine hK _ _ ?_
  clear hK K
  refine cw_assoc ?_
  refine cw_reg_seq fun K hK => ?_
  simp only [go_sem]
  refine hK _ _ ?_
  clear hK K
  refine cw_seq_k fun K3 hK3 => ?_
  simp only [go_sem]
  refine ibr_intro (fun hc4 => ?_) (fun hc4 => ?_)
  · rw [if_t hc4] at hm0
    refine cw_reg_seq fun K hK => ?_
    simp only [go_sem]
    refine hK _ _ ?_
    clear hK K
    simp only [cw_ret, qseq_ret, qblock_ret, retQ_ret]
    obtain rfl := Option.some.inj hm0
    exact done_t2 (by simp only [go_sem, List.length_append, List.map_append]) (by simp only [go_sem, List.length_append, List.map_append]) (frz_v _) (frz_v _)
  · rw [if_f hc4] at hm0
    simp only [cw_skip, qblock_normal, qseq_normal]
    refine hK3 _ _ ?_
    obtain ⟨y6, h_y6, hm0⟩ := bind_get hm0
    refine cw_reg_postK (fun t h => ∃ v9 : AV, ∃ hs9 : List AV, t 1 = I comb ∧ t 2 = I from_ ∧ t 3 = .fp [.fs 5 (List.map eComb h_.Combs), .fs 3 (List.map eTrain h_.Trains), .fs 3 (List.map eShift h_.Shifts), I h_.Until] 0 ∧ t 9 = v9 ∧ RR h v9 hs9 1 eI y6) (fun K hK => ?_) ?_
    · simp only [go_sem]
      refine icallw_of (k_halls_open_w h_ _  _ h_y6) ?_
      rintro rv_y6 hq_y6 ⟨rh_y6, rw_y6, fr_y6, fx_y6, ge_y6⟩
      simp only [go_sem]
      exact hK _ _ ⟨rv_y6, rh_y6, s1, s2, (by first | (simp only [go_sem, List.length_append, List.map_append]; done) | rfl), (by first | (simp only [go_sem, List.length_append, List.map_append]; done) | rfl), rw_y6⟩
    · rintro t h ⟨v9, hs9, s1, s2, s3, s9, rr_o9⟩
      refine cw_reg_seq fun K hK => ?_
      simp only [go_sem, istr_of v9]
      refine hK _ _ ?_
      clear hK K
      simp only [cw_block]
      obtain ⟨b7, hl7, hm0⟩ := bind_get hm0
      refine cw_loopM hl7 (fun | (all_9, n_10), t, h => ∃ v9_1 : AV, t 1 = I comb ∧ t 2 = I from_ ∧ t 3 = .fp [.fs 5 (List.map eComb h_.Combs), .fs 3 (List.map eTrain h_.Trains), .fs 3 (List.map eShift h_.Shifts), I h_.Until] 0 ∧ t 9 = v9_1 ∧ t 10 = I n_10 ∧ RR h v9_1 hs9 1 eI all_9) ?_ ?_
      · exact ⟨v9, s1, s2, s3, s9, (by first | (simp only [go_sem, List.length_append, List.map_append]; done) | rfl), rr_o9⟩
      · rintro ⟨all_9, n_10⟩ o t h ⟨v9_1, s1, s2, s3, s9, s10, rr_o9⟩ hm1 hb7
        simp only [halls_Guard_L12] at hm1
        rw [x_halls_Guard_L12]
        refine cw_seq_k fun K8 hK8 => ?_
        simp only [cw_block]
        refine cw_assoc ?_
        obtain ⟨y11, h_y11, hm1⟩ := bind_get hm1
        obtain ⟨y12, h_y12, hm1⟩ := bind_get hm1
        refine cw_reg_postK (fun t h => t 1 = I comb ∧ t 2 = I from_ ∧ t 3 = .fp [.fs 5 (List.map eComb h_.Combs), .fs 3 (List.map eTrain h_.Trains), .fs 3 (List.map eShift h_.Shifts), I h_.Until] 0 ∧ t 9 = v9_1 ∧ t 10 = I n_10 ∧ t 29 = B (decide ((List.length y12 : Int) = 0)) ∧ RR h v9_1 hs9 1 eI all_9) (fun K hK => ?_) ?_
        · simp only [go_sem, s3, s9, rr_len rr_o9, istr_of v9, istr_of v9_1]
          refine icallw_of (k_halls_bounds_w h_ all_9 v9_1 hs9 _ rr_o9 _ h_y11) ?_
          rintro _ hq_y11 ⟨rfl, fr_y11, fx_y11⟩
          simp only [go_sem, s3, s9, rr_len rr_o9, istr_of v9, istr_of v9_1]
          refine icall_fn (k_halls_over h_ y11 _ h_y12) ?_
          simp only [go_sem, s3, s9, rr_len rr_o9, istr_of v9, istr_of v9_1]
          exact hK _ _ ⟨s1, s2, s3, s9, s10, (by first | (simp only [go_sem, List.length_append, List.map_append]; done) | rfl), (rr_later rr_o9 (by intro j hj  hl; first | rfl | simp only [go_sem, hl, fr_y11]) (by first | omega | exact Nat.le_refl _ | (simp only [go_sem, nxs] <;> omega)))⟩
        · rintro t h ⟨s1, s2, s3, s9, s10, s29, rr_o9⟩
          refine cw_seq_k fun K13 hK13 => ?_
          simp only [go_sem, s29]
          refine ibr_intro (fun hc14 => ?_) (fun hc14 => ?_)
          · rw [if_t hc14] at hm1
            refine cw_reg_seq fun K hK => ?_
            simp only [go_sem, s10, istr_of v9, istr_of v9_1]
            refine hK _ _ ?_
            clear hK K
            simp only [cw_ret, qseq_ret, qblock_ret, retQ_ret]
            obtain rfl := Option.some.inj hm1
            obtain rfl := hb7 _ rfl
            try dsimp only at hm0
            obtain rfl := Option.some.inj hm0
            exact done_t2 (by simp only [go_sem, rr_lates rr_o9, List.length_append, List.map_append]) (by simp only [go_sem, rr_lates rr_o9, List.length_append, List.map_append]) (frz_v _) (frz_v _)
          · rw [if_f hc14] at hm1
            simp only [cw_skip, qblock_normal, qseq_normal]
            refine hK13 _ _ ?_
            refine cw_assoc ?_
            refine cw_reg_seq fun K hK => ?_
            simp only [go_sem, s2, s3, s10, istr_of v9, istr_of v9_1]
            refine hK _ _ ?_
            clear hK K
            refine cw_seq_k fun K15 hK15 => ?_
            simp only [go_sem]
            refine ibr_intro (fun hc16 => ?_) (fun hc16 => ?_)
            · rw [if_t hc16] at hm1
              refine cw_reg_seq fun K hK => ?_
              simp only [go_sem, istr_of v9, istr_of v9_1]
              refine hK _ _ ?_
              clear hK K
              simp only [cw_ret, qseq_ret, qblock_ret, retQ_ret]
              obtain rfl := Option.some.inj hm1
              obtain rfl := hb7 _ rfl
              try dsimp only at hm0
              obtain rfl := Option.some.inj hm0
              exact done_t2 (by simp only [go_sem, rr_lates rr_o9, List.length_append, List.map_append]) (by simp only [go_sem, rr_lates rr_o9, List.length_append, List.map_append]) (frz_v _) (frz_v _)
            · rw [if_f hc16] at hm1
              simp only [cw_skip, qblock_normal, qseq_normal]
              refine hK15 _ _ ?_
              obtain ⟨x19, h_x19, hm1⟩ := bind_get hm1
              have h_x190 := get_nn h_x19
              have h_x191 := get_lt h_x19
              obtain ⟨iqp34, rfl, ob_o9, lt_o9⟩ := rr_top rr_o9 h_x19
              obtain ⟨wp35, hw_wp35, os_wp35⟩ := rr_row rr_o9 h_x19
              obtain ⟨x20, h_x20, hm1⟩ := bind_get hm1
              have h_x200 := get_nn h_x20
              have h_x201 := get_lt h_x20
              obtain ⟨irp36, rfl, obr_irp36, ltr_irp36⟩ := own_get os_wp35 h_x20
              refine cw_reg_postK1 (fun t h => ∃ v9_2 : AV, t 1 = I comb ∧ t 2 = I from_ ∧ t 3 = .fp [.fs 5 (List.map eComb h_.Combs), .fs 3 (List.map eTrain h_.Trains), .fs 3 (List.map eShift h_.Shifts), I h_.Until] 0 ∧ t 9 = v9_2 ∧ t 10 = I n_10 ∧ RR h v9_2 hs9 1 eI (List.set all_9 (Int.toNat comb) (List.set x19 (Int.toNat (wr (from_ + n_10))) 0))) (fun K hK => ?_) ?_
              · simp only [go_sem, s1, s2, s9, rr_len rr_o9, s10, ob_o9, lt_o9, ielem_get h_x19, irow_get h_x19, h_x190, h_x191, ielem_get hw_wp35, irow_get hw_wp35, own_len os_wp35, ielem_get h_x20, irow_get h_x20, h_x200, h_x201, obr_irp36, ltr_irp36, istr_of v9]
                exact hK _ _ ⟨(.rs iqp34 0 (List.length all_9)), s1, s2, s3, (by first | (simp only [go_sem, s9, List.length_append, List.map_append]; done) | rfl), s10, (rr_upd rr_o9 h_x19 hw_wp35 (by simp only [go_sem, rr_lates rr_o9, ob_o9, lt_o9, rr_top_ne rr_o9 hw_wp35, nsym (rr_top_ne rr_o9 hw_wp35), List.length_append, List.map_append]) (by simp only [List.length_set]) (by intro j hj hne hl; first | rfl | simp only [go_sem, hne, hl, lt_o9]) (by first | omega | exact Nat.le_refl _ | (simp only [go_sem, nxs] <;> omega)))⟩
              · try clear s1 s2 s3 s9 s10 s29 rr_o9 ob_o9 lt_o9
                rintro t h ⟨v9_2, s1, s2, s3, s9, s10, rr_o9⟩
                simp only [qblock_normal, qseq_normal]
                refine hK8 _ _ ?_
                refine cw_reg_k fun K hK => ?_
                simp only [go_sem, s10, istr_of v9, istr_of v9_2]
                refine hK _ _ ?_
                clear hK K
                simp only [qblock_normal, qseq_normal]
                obtain rfl := Option.some.inj hm1
                refine ⟨_, rfl, ?_⟩
                exact ⟨v9_2, s1, s2, s3, s9, (by first | (simp only [go_sem, s10, List.length_append, List.map_append]; done) | rfl), rr_o9⟩

end Go.Nw.HM

namespace Go.Nw.HM
open Go.Nw.Halls
set_option linter.unusedSimpArgs false
set_option linter.unusedVariables false
set_option maxHeartbeats 4000000
variable {O : Orac}

theorem k_halls_Most (hf : Has O "newel/halls.Most" x_halls_Most) (k_halls_check : C_halls_check O) (k_halls_open : C_halls_open O) (k_halls_bounds : C_halls_bounds O) : C_halls_Most O := by
  intro h_ comb r hm0
  unfold halls_Most at hm0
  refine fn_cw hf rfl (fz_cons (.agg _ (fz_cons (frz_fs fun a _ => fz_eComb a) (fz_cons (frz_fs fun a _ => fz_eTrain a) (fz_cons (frz_fs fun a _ => fz_eShift a) (fz_cons (frz_v _) fz_nil))))) (fz_cons (frz_v _) fz_nil)) (.tup _ (fz_cons (frz_fs fun a _ => fz_eI a) (fz_cons (frz_v _) fz_nil))) ?_
  refine cw_start (fun t h => t 0 = .agg [.fs 5 (List.map eComb h_.Combs), .fs 3 (List.map eTrain h_.Trains), .fs 3 (List.map eShift h_.Shifts), I h_.Until] ∧ t 1 = I comb) ⟨rfl, rfl⟩ fun t h ⟨s0, s1⟩ => ?_
  simp only [x_halls_Most]
  refine cw_reg_seq fun K hK => ?_
  simp only [go_sem, s0]
  refine hK _ _ ?_
  clear hK K
  refine cw_assoc ?_
  obtain ⟨y2, h_y2, hm0⟩ := bind_get hm0
  refine cw_reg_seq fun K hK => ?_
  simp only [go_sem, s1]
  refine icall_fn2 ?_ (fz_cons (.agg _ (fz_cons (frz_fs fun a _ => fz_eComb a) (fz_cons (frz_fs fun a _ => fz_eTrain a) (fz_cons (frz_fs fun a _ => fz_eShift a) (fz_cons (frz_v _) fz_nil))))) (fz_cons (frz_v _) (fz_cons (frz_v _) fz_nil))) (k_halls_check h_ comb ([]) _ h_y2) ?_
  · exact .cons (.refl _ (.agg _ (fz_cons (frz_fs fun a _ => fz_eComb a) (fz_cons (frz_fs fun a _ => fz_eTrain a) (fz_cons (frz_fs fun a _ => fz_eShift a) (fz_cons (frz_v _) fz_nil)))))) (.cons (.refl _ (frz_v _)) (.cons (.nil _) (.nil)))
  simp only [go_sem, s1]
  refine hK _ _ ?_
  clear hK K
  refine cw_assoc ?_
  refine cw_reg_seq fun K hK => ?_
  simp only [go_sem]
  refine hK _ _ ?_
  clear hK K
  refine cw_seq_k fun K3 hK3 => ?_
  simp only [go_sem]
  refine ibr_intro (fun hc4 => ?_) (fun hc4 => ?_)
  · rw [if_t hc4] at hm0
    refine cw_reg_seq fun K hK => ?_
    simp only [go_sem]
    refine hK _ _ ?_
    clear hK K
    simp only [cw_ret, qseq_ret, qblock_ret, retQ_ret]
    obtain rfl := Option.some.inj hm0
    exact done_fz2 (v := .v (.slice none 0 0)) (u := I y2) (by simp only [go_sem, List.length_append, List.map_append]) (by simp only [go_sem, List.length_append, List.map_append]) (.nil _) (.refl _ (frz_v _))
  · rw [if_f hc4] at hm0
    simp only [cw_skip, qblock_normal, qseq_normal]
    refine hK3 _ _ ?_
    obtain ⟨y8, h_y8, hm0⟩ := bind_get hm0
    obtain ⟨y9, h_y9, hm0⟩ := bind_get hm0
    obtain ⟨x10, h_x10, hm0⟩ := bind_get hm0
    have h_x100 := get_nn h_x10
    have h_x101 := get_lt h_x10
    refine cw_reg_seq fun K hK => ?_
    simp only [go_sem, s1, ielem_get h_x10, irow_get h_x10, h_x100, h_x101]
    refine icall_fn (k_halls_open h_ _ h_y8) ?_
    simp only [go_sem, s1, ielem_get h_x10, irow_get h_x10, h_x100, h_x101]
    refine icall_fn (k_halls_bounds h_ y8 _ h_y9) ?_
    simp only [go_sem, s1, ielem_get h_x10, irow_get h_x10, h_x100, h_x101]
    refine hK _ _ ?_
    clear hK K
    simp only [cw_ret, qseq_ret, qblock_ret, retQ_ret]
    obtain rfl := Option.some.inj hm0
    exact done_t2 (by simp only [go_sem, List.length_append, List.map_append]) (by simp only [go_sem, List.length_append, List.map_append]) (frz_fs fun a _ => fz_eI a) (frz_v _)

end Go.Nw.HM

namespace Go.Nw.HM
open Go.Nw.Halls
set_option linter.unusedSimpArgs false
set_option linter.unusedVariables false
set_option maxHeartbeats 4000000
variable {O : Orac}

theorem k_halls_Need (hf : Has O "newel/halls.Need" x_halls_Need) (k_halls_check : C_halls_check O) (k_halls_open : C_halls_open O) (k_halls_bounds : C_halls_bounds O) : C_halls_Need O := by
  intro h_ comb r hm0
  unfold halls_Need at hm0
  refine fn_cw hf rfl (fz_cons (.agg _ (fz_cons (frz_fs fun a _ => fz_eComb a) (fz_cons (frz_fs fun a _ => fz_eTrain a) (fz_cons (frz_fs fun a _ => fz_eShift a) (fz_cons (frz_v _) fz_nil))))) (fz_cons (frz_v _) fz_nil)) (.tup _ (fz_cons (frz_v _) (fz_cons (frz_v _) fz_nil))) ?_
  refine cw_start (fun t h => t 0 = .agg [.fs 5 (List.map eComb h_.Combs), .fs 3 (List.map eTrain h_.Trains), .fs 3 (List.map eShift h_.Shifts), I h_.Until] ∧ t 1 = I comb) ⟨rfl, rfl⟩ fun t h ⟨s0, s1⟩ => ?_
  simp only [x_halls_Need]
  refine cw_reg_seq fun K hK => ?_
  simp only [go_sem, s0]
  refine hK _ _ ?_
  clear hK K
  refine cw_assoc ?_
  obtain ⟨y2, h_y2, hm0⟩ := bind_get hm0
  refine cw_reg_seq fun K hK => ?_
  simp only [go_sem, s1]
  refine icall_fn2 ?_ (fz_cons (.agg _ (fz_cons (frz_fs fun a _ => fz_eComb a) (fz_cons (frz_fs fun a _ => fz_eTrain a) (fz_cons (frz_fs fun a _ => fz_eShift a) (fz_cons (frz_v _) fz_nil))))) (fz_cons (frz_v _) (fz_cons (frz_v _) fz_nil))) (k_halls_check h_ comb ([]) _ h_y2) ?_
  · exact .cons (.refl _ (.agg _ (fz_cons (frz_fs fun a _ => fz_eComb a) (fz_cons (frz_fs fun a _ => fz_eTrain a) (fz_cons (frz_fs fun a _ => fz_eShift a) (fz_cons (frz_v _) fz_nil)))))) (.cons (.refl _ (frz_v _)) (.cons (.nil _) (.nil)))
  simp only [go_sem, s1]
  refine hK _ _ ?_
  clear hK K
  refine cw_assoc ?_
  refine cw_reg_seq fun K hK => ?_
  simp only [go_sem]
  refine hK _ _ ?_
  clear hK K
  refine cw_seq_k fun K3 hK3 => ?_
  simp only [go_sem]
  refine ibr_intro (fun hc4 => ?_) (fun hc4 => ?_)
  · rw [if_t hc4] at hm0
    refine cw_reg_seq fun K hK => ?_
    simp only [go_sem]
    refine hK _ _ ?_
    clear hK K
    simp only [cw_ret, qseq_ret, qblock_ret, retQ_ret]
    obtain rfl := Option.some.inj hm0
    exact done_t2 (by simp only [go_sem, List.length_append, List.map_append]) (by simp only [go_sem, List.length_append, List.map_append]) (frz_v _) (frz_v _)
  · rw [if_f hc4] at hm0
    simp only [cw_skip, qblock_normal, qseq_normal]
    refine hK3 _ _ ?_
    obtain ⟨y9, h_y9, hm0⟩ := bind_get hm0
    obtain ⟨y10, h_y10, hm0⟩ := bind_get hm0
    obtain ⟨x11, h_x11, hm0⟩ := bind_get hm0
    have h_x110 := get_nn h_x11
    have h_x111 := get_lt h_x11
    obtain ⟨x12, h_x12, hm0⟩ := bind_get hm0
    have h_x120 := get_nn h_x12
    have h_x121 := get_lt h_x12
    refine cw_reg_seq fun K hK => ?_
    simp only [go_sem, s1, ielem_get h_x11, irow_get h_x11, h_x110, h_x111, ielem_get h_x12, irow_get h_x12, h_x120, h_x121]
    refine icall_fn (k_halls_open h_ _ h_y9) ?_
    simp only [go_sem, s1, ielem_get h_x11, irow_get h_x11, h_x110, h_x111, ielem_get h_x12, irow_get h_x12, h_x120, h_x121]
    refine icall_fn (k_halls_bounds h_ y9 _ h_y10) ?_
    simp only [go_sem, s1, ielem_get h_x11, irow_get h_x11, h_x110, h_x111, ielem_get h_x12, irow_get h_x12, h_x120, h_x121]
    refine hK _ _ ?_
    clear hK K
    refine cw_reg_seq fun K hK => ?_
    simp only [go_sem]
    refine hK _ _ ?_
    clear hK K
    refine cw_assoc ?_
    refine cw_reg_seq fun K hK => ?_
    simp only [go_sem]
    refine hK _ _ ?_
    clear hK K
    refine cw_seq_k fun K13 hK13 => ?_
    have J14 : ∀ (need_9 : Int) (t : Slots) (h : Heap), t 9 = I need_9 → halls_Need_j14 need_9 = some r → K13 t h := by
      intro need_9 t h s9 hm0
      refine hK13 _ _ ?_
      unfold halls_Need_j14 at hm0
      refine cw_assoc ?_
      refine cw_reg_seq fun K hK => ?_
      simp only [go_sem, s9]
      refine hK _ _ ?_
      clear hK K
      refine cw_seq_k fun K15 hK15 => ?_
      simp only [go_sem]
      refine ibr_intro (fun hc16 => ?_) (fun hc16 => ?_)
      · rw [if_t hc16] at hm0
        refine cw_reg_seq fun K hK => ?_
        simp only [go_sem]
        refine hK _ _ ?_
        clear hK K
        simp only [cw_ret, qseq_ret, qblock_ret, retQ_ret]
        obtain rfl := Option.some.inj hm0
        exact done_t2 (by simp only [go_sem, List.length_append, List.map_append]) (by simp only [go_sem, List.length_append, List.map_append]) (frz_v _) (frz_v _)
      · rw [if_f hc16] at hm0
        simp only [cw_skip, qblock_normal, qseq_normal]
        refine hK15 _ _ ?_
        refine cw_reg_seq fun K hK => ?_
        simp only [go_sem, s9]
        refine hK _ _ ?_
        clear hK K
        simp only [cw_ret, qseq_ret, qblock_ret, retQ_ret]
        obtain rfl := Option.some.inj hm0
        exact done_t2 (by simp only [go_sem, List.length_append, List.map_append]) (by simp only [go_sem, List.length_append, List.map_append]) (frz_v _) (frz_v _)
    simp only [cw_block]
    obtain ⟨b17, hl17, hm0⟩ := bind_get hm0
    refine cw_loopM hl17 (fun | (need_9, x_33), t, h => t 2 = .fp [.fs 5 (List.map eComb h_.Combs), .fs 3 (List.map eTrain h_.Trains), .fs 3 (List.map eShift h_.Shifts), I h_.Until] 0 ∧ t 7 = .fp [.fs 1 (List.map eI x11.rates), .fs 1 (List.map eI x11.flow), .fs 1 (List.map eI x11.most), .fs 1 (List.map eL_I x11.come)] 0 ∧ t 8 = I x12.Limit ∧ t 9 = I need_9 ∧ t 32 = I h_.Until ∧ t 33 = I x_33) ?_ ?_
    · exact ⟨(by first | (simp only [go_sem, List.length_append, List.map_append]; done) | rfl), (by first | (simp only [go_sem, List.length_append, List.map_append]; done) | rfl), (by first | (simp only [go_sem, List.length_append, List.map_append]; done) | rfl), (by first | (simp only [go_sem, List.length_append, List.map_append]; done) | rfl), (by first | (simp only [go_sem, List.length_append, List.map_append]; done) | rfl), (by first | (simp only [go_sem, List.length_append, List.map_append]; done) | rfl)⟩
    · rintro ⟨need_9, x_33⟩ o t h ⟨s2, s7, s8, s9, s32, s33⟩ hm1 hb17
      simp only [halls_Need_L17] at hm1
      rw [x_halls_Need_L17]
      refine cw_reg_seq fun K hK => ?_
      simp only [go_sem, s32, s33]
      refine hK _ _ ?_
      clear hK K
      refine cw_seq_k fun K18 hK18 => ?_
      simp only [go_sem]
      refine ibr_intro (fun hc19 => ?_) (fun hc19 => ?_)
      · rw [if_t hc19] at hm1
        simp only [cw_skip, qblock_normal, qseq_normal]
        refine hK18 _ _ ?_
        refine cw_seq_k fun K20 hK20 => ?_
        have J21 : ∀ (need_9_1 : Int) (t : Slots) (h : Heap), t 2 = .fp [.fs 5 (List.map eComb h_.Combs), .fs 3 (List.map eTrain h_.Trains), .fs 3 (List.map eShift h_.Shifts), I h_.Until] 0 → t 7 = .fp [.fs 1 (List.map eI x11.rates), .fs 1 (List.map eI x11.flow), .fs 1 (List.map eI x11.most), .fs 1 (List.map eL_I x11.come)] 0 → t 8 = I x12.Limit → t 9 = I need_9_1 → t 32 = I h_.Until → t 33 = I x_33 → halls_Need_j21 x_33 need_9_1 = some o → K20 t h := by
          intro need_9_1 t h s2 s7 s8 s9 s32 s33 hm1
          refine hK20 _ _ ?_
          unfold halls_Need_j21 at hm1
          refine cw_reg_k fun K hK => ?_
          simp only [go_sem, s33]
          refine hK _ _ ?_
          clear hK K
          simp only [qblock_normal, qseq_normal]
          obtain rfl := Option.some.inj hm1
          refine ⟨_, rfl, ?_⟩
          exact ⟨s2, s7, s8, s9, s32, (by first | (simp only [go_sem, s33, List.length_append, List.map_append]; done) | rfl)⟩
        simp only [cw_block]
        refine cw_reg_seq fun K hK => ?_
        simp only [go_sem, s33]
        refine hK _ _ ?_
        clear hK K
        refine cw_assoc ?_
        obtain ⟨x24, h_x24, hm1⟩ := bind_get hm1
        have h_x240 := get_nn h_x24
        have h_x241 := get_lt h_x24
        obtain ⟨x25, h_x25, hm1⟩ := bind_get hm1
        have h_x250 := get_nn h_x25
        have h_x251 := get_lt h_x25
        refine cw_reg_seq fun K hK => ?_
        simp only [go_sem, s7, s8, ielem_get h_x24, irow_get h_x24, h_x240, h_x241, ielem_get h_x25, irow_get h_x25, h_x250, h_x251]
        refine hK _ _ ?_
        clear hK K
        refine cw_seq_k fun K26 hK26 => ?_
        simp only [go_sem]
        refine ibr_intro (fun hc27 => ?_) (fun hc27 => ?_)
        · rw [if_t hc27] at hm1
          refine cw_reg_seq fun K hK => ?_
          simp only [go_sem]
          refine hK _ _ ?_
          clear hK K
          simp only [cw_ret, qseq_ret, qblock_ret, retQ_ret]
          obtain rfl := Option.some.inj hm1
          obtain rfl := hb17 _ rfl
          try dsimp only at hm0
          obtain rfl := Option.some.inj hm0
          exact done_t2 (by simp only [go_sem, List.length_append, List.map_append]) (by simp only [go_sem, List.length_append, List.map_append]) (frz_v _) (frz_v _)
        · rw [if_f hc27] at hm1
          simp only [cw_skip, qblock_normal, qseq_normal]
          refine hK26 _ _ ?_
          refine cw_reg_seq fun K hK => ?_
          simp only [go_sem]
          refine hK _ _ ?_
          clear hK K
          simp only [cw_block]
          obtain ⟨b28, hl28, hm1⟩ := bind_get hm1
          refine cw_loopM hl28 (fun | (need_9_1, t_11), t, h => t 2 = .fp [.fs 5 (List.map eComb h_.Combs), .fs 3 (List.map eTrain h_.Trains), .fs 3 (List.map eShift h_.Shifts), I h_.Until] 0 ∧ t 7 = .fp [.fs 1 (List.map eI x11.rates), .fs 1 (List.map eI x11.flow), .fs 1 (List.map eI x11.most), .fs 1 (List.map eL_I x11.come)] 0 ∧ t 8 = I x12.Limit ∧ t 9 = I need_9_1 ∧ t 10 = I x_33 ∧ t 11 = I t_11 ∧ t 32 = I h_.Until ∧ t 33 = I x_33) ?_ ?_
          · exact ⟨s2, s7, s8, s9, (by first | (simp only [go_sem, List.length_append, List.map_append]; done) | rfl), (by first | (simp only [go_sem, List.length_append, List.map_append]; done) | rfl), s32, s33⟩
          · rintro ⟨need_9_1, t_11⟩ o t h ⟨s2, s7, s8, s9, s10, s11, s32, s33⟩ hm2 hb28
            simp only [halls_Need_L15] at hm2
            rw [x_halls_Need_L15]
            refine cw_assoc ?_
            refine cw_reg_seq fun K hK => ?_
            simp only [go_sem, s2, s11]
            refine hK _ _ ?_
            clear hK K
            refine cw_seq_k fun K29 hK29 => ?_
            simp only [go_sem]
            refine ibr_intro (fun hc30 => ?_) (fun hc30 => ?_)
            · rw [if_t hc30] at hm2
              simp only [cw_skip, qblock_normal, qseq_normal]
              refine hK29 _ _ ?_
              refine cw_seq_k fun K31 hK31 => ?_
              simp only [cw_block]
              obtain ⟨x35, h_x35, hm2⟩ := bind_get hm2
              have h_x350 := get_nn h_x35
              have h_x351 := get_lt h_x35
              obtain ⟨x36, h_x36, hm2⟩ := bind_get hm2
              have h_x360 := get_nn h_x36
              have h_x361 := get_lt h_x36
              obtain ⟨q37, h_q37, hm2⟩ := bind_get hm2
              refine cw_reg_k fun K hK => ?_
              simp only [go_sem, s7, s8, s9, s10, s11, ielem_get h_x35, irow_get h_x35, h_x350, h_x351, ielem_get h_x36, irow_get h_x36, h_x360, h_x361, ibin_quo h_q37]
              refine hK _ _ ?_
              clear hK K
              simp only [qblock_normal, qseq_normal]
              refine hK31 _ _ ?_
              refine cw_reg_k fun K hK => ?_
              simp only [go_sem, s11]
              refine hK _ _ ?_
              clear hK K
              simp only [qblock_normal, qseq_normal]
              obtain rfl := Option.some.inj hm2
              refine ⟨_, rfl, ?_⟩
              exact ⟨s2, s7, s8, (by first | (simp only [go_sem, s9, List.length_append, List.map_append]; done) | rfl), s10, (by first | (simp only [go_sem, s11, List.length_append, List.map_append]; done) | rfl), s32, s33⟩
            · rw [if_f hc30] at hm2
              simp only [cw_exit, qseq_exit, qblock_same, qblock_ne, qblock_normal, qseq_normal, Nat.reduceEqDiff, not_false_eq_true]
              obtain rfl := Option.some.inj hm2
              obtain rfl := hb28 _ rfl
              try dsimp only at hm1
              exact J21 need_9_1 _ _ s2 s7 s8 s9 s32 s33 hm1
      · rw [if_f hc19] at hm1
        simp only [cw_exit, qseq_exit, qblock_same, qblock_ne, qblock_normal, qseq_normal, Nat.reduceEqDiff, not_false_eq_true]
        obtain rfl := Option.some.inj hm1
        obtain rfl := hb17 _ rfl
        try dsimp only at hm0
        exact J14 need_9 _ _ s9 hm0

end Go.Nw.HM

namespace Go.Nw.HM
open Go.Nw.Halls
set_option linter.unusedSimpArgs false
set_option linter.unusedVariables false
set_option maxHeartbeats 4000000
variable {O : Orac}

theorem k_halls_Over (hf : Has O "newel/halls.Over" x_halls_Over) (k_halls_Check : C_halls_Check O) (k_halls_open : C_halls_open O) (k_halls_bounds : C_halls_bounds O) (k_halls_over : C_halls_over O) : C_halls_Over O := by
  intro h_ r hm0
  unfold halls_Over at hm0
  refine fn_cw hf rfl (fz_cons (.agg _ (fz_cons (frz_fs fun a _ => fz_eComb a) (fz_cons (frz_fs fun a _ => fz_eTrain a) (fz_cons (frz_fs fun a _ => fz_eShift a) (fz_cons (frz_v _) fz_nil))))) fz_nil) (.tup _ (fz_cons (frz_fs fun a _ => fz_eA2_I a) (fz_cons (frz_v _) fz_nil))) ?_
  refine cw_start (fun t h => t 0 = .agg [.fs 5 (List.map eComb h_.Combs), .fs 3 (List.map eTrain h_.Trains), .fs 3 (List.map eShift h_.Shifts), I h_.Until]) rfl fun t h s0 => ?_
  simp only [x_halls_Over]
  refine cw_reg_seq fun K hK => ?_
  simp only [go_sem, s0]
  refine hK _ _ ?_
  clear hK K
  refine cw_assoc ?_
  obtain ⟨y2, h_y2, hm0⟩ := bind_get hm0
  refine cw_reg_seq fun K hK => ?_
  simp only [go_sem]
  refine icall_fn (k_halls_Check h_ _ h_y2) ?_
  simp only [go_sem]
  refine hK _ _ ?_
  clear hK K
  refine cw_assoc ?_
  refine cw_reg_seq fun K hK => ?_
  simp only [go_sem]
  refine hK _ _ ?_
  clear hK K
  refine cw_seq_k fun K3 hK3 => ?_
  simp only [go_sem]
  refine ibr_intro (fun hc4 => ?_) (fun hc4 => ?_)
  · rw [if_t hc4] at hm0
    refine cw_reg_seq fun K hK => ?_
    simp only [go_sem]
    refine hK _ _ ?_
    clear hK K
    simp only [cw_ret, qseq_ret, qblock_ret, retQ_ret]
    obtain rfl := Option.some.inj hm0
    exact done_fz2 (v := .v (.slice none 0 0)) (u := I y2) (by simp only [go_sem, List.length_append, List.map_append]) (by simp only [go_sem, List.length_append, List.map_append]) (.nil _) (.refl _ (frz_v _))
  · rw [if_f hc4] at hm0
    simp only [cw_skip, qblock_normal, qseq_normal]
    refine hK3 _ _ ?_
    obtain ⟨y8, h_y8, hm0⟩ := bind_get hm0
    obtain ⟨y9, h_y9, hm0⟩ := bind_get hm0
    obtain ⟨y10, h_y10, hm0⟩ := bind_get hm0
    refine cw_reg_seq fun K hK => ?_
    simp only [go_sem]
    refine icall_fn (k_halls_open h_ _ h_y8) ?_
    simp only [go_sem]
    refine icall_fn (k_halls_bounds h_ y8 _ h_y9) ?_
    simp only [go_sem]
    refine icall_fn (k_halls_over h_ y9 _ h_y10) ?_
    simp only [go_sem]
    refine hK _ _ ?_
    clear hK K
    simp only [cw_ret, qseq_ret, qblock_ret, retQ_ret]
    obtain rfl := Option.some.inj hm0
    exact done_t2 (by simp only [go_sem, List.length_append, List.map_append]) (by simp only [go_sem, List.length_append, List.map_append]) (frz_fs fun a _ => fz_eA2_I a) (frz_v _)

end Go.Nw.HM

namespace Go.Nw.HM
open Go.Nw.Halls
set_option linter.unusedSimpArgs false
set_option linter.unusedVariables false
set_option maxHeartbeats 4000000
variable {O : Orac}

theorem k_halls_bounds (hf : Has O "newel/halls.bounds" x_halls_bounds) (k_halls_brought : C_halls_brought O) (k___halls_bound__passes : C___halls_bound__passes O) : C_halls_bounds O := by
  intro h_ open_ r hm0
  unfold halls_bounds at hm0
  refine fn_cw hf rfl (fz_cons (.agg _ (fz_cons (frz_fs fun a _ => fz_eComb a) (fz_cons (frz_fs fun a _ => fz_eTrain a) (fz_cons (frz_fs fun a _ => fz_eShift a) (fz_cons (frz_v _) fz_nil))))) (fz_cons (frz_fs fun a _ => fz_eL_I a) fz_nil)) (frz_fs fun a _ => fz_eP_halls_bound a) ?_
  refine cw_start (fun t h => t 0 = .agg [.fs 5 (List.map eComb h_.Combs), .fs 3 (List.map eTrain h_.Trains), .fs 3 (List.map eShift h_.Shifts), I h_.Until] ∧ t 1 = .fs 1 (List.map eL_I open_)) ⟨rfl, rfl⟩ fun t h ⟨s0, s1⟩ => ?_
  simp only [x_halls_bounds]
  refine cw_reg_seq fun K hK => ?_
  simp only [go_sem, s0]
  refine hK _ _ ?_
  clear hK K
  refine cw_reg_seq fun K hK => ?_
  simp only [go_sem]
  refine hK _ _ ?_
  clear hK K
  refine cw_assoc ?_
  refine cw_reg_seq fun K hK => ?_
  simp only [go_sem]
  refine hK _ _ ?_
  clear hK K
  refine cw_seq_k fun K1 hK1 => ?_
  have J2 : ∀ (all_5 : List halls_bound) (v5 : AV) (t : Slots) (h : Heap), t 5 = v5 → OwnS h v5 1 (List.map eP_halls_bound all_5) → halls_bounds_j2 all_5 = some r → K1 t h := by
    intro all_5 v5 t h s5 ow_o5 hm0
    refine hK1 _ _ ?_
    unfold halls_bounds_j2 at hm0
    refine cw_assoc ?_
    refine cw_ghost_own (s := 5) (v := v5) (f := eP_halls_bound) (l := all_5) (by simp only [go_sem, s5, own_late ow_o5, List.length_append, List.map_append]) (own_later ow_o5 (by intro j hj hl; first | rfl | simp only [go_sem, hl]) (by first | omega | exact Nat.le_refl _ | (simp only [go_sem, nxs] <;> omega))) fz_eP_halls_bound ln_eP_halls_bound ?_
    skip
    refine cw_reg_seq fun K hK => ?_
    simp only [go_sem, s5, istr_of v5]
    refine hK _ _ ?_
    clear hK K
    simp only [cw_ret, qseq_ret, qblock_ret, retQ_ret]
    obtain rfl := Option.some.inj hm0
    exact done_t (by simp only [go_sem, own_late ow_o5, List.length_append, List.map_append]) (frz_fs fun a _ => fz_eP_halls_bound a)
  simp only [cw_block]
  obtain ⟨b3, hl3, hm0⟩ := bind_get hm0
  refine cw_loopM hl3 (fun | (all_5, x_19), t, h => ∃ v5 : AV, t 1 = .fs 1 (List.map eL_I open_) ∧ t 2 = .fp [.fs 5 (List.map eComb h_.Combs), .fs 3 (List.map eTrain h_.Trains), .fs 3 (List.map eShift h_.Shifts), I h_.Until] 0 ∧ t 5 = v5 ∧ t 18 = I (List.length h_.Combs : Int) ∧ t 19 = I x_19 ∧ OwnS h v5 1 (List.map eP_halls_bound all_5)) ?_ ?_
  · exact ⟨(.v (.slice none 0 0)), s1, (by first | (simp only [go_sem, List.length_append, List.map_append]; done) | rfl), (by first | (simp only [go_sem, List.length_append, List.map_append]; done) | rfl), (by first | (simp only [go_sem, List.length_append, List.map_append]; done) | rfl), (by first | (simp only [go_sem, List.length_append, List.map_append]; done) | rfl), own_nil'⟩
  · rintro ⟨all_5, x_19⟩ o t h ⟨v5, s1, s2, s5, s18, s19, ow_o5⟩ hm1 hb3
    simp only [halls_bounds_L42] at hm1
    rw [x_halls_bounds_L42]
    refine cw_reg_seq fun K hK => ?_
    simp only [go_sem, s18, s19, istr_of v5]
    refine hK _ _ ?_
    clear hK K
    refine cw_seq_k fun K4 hK4 => ?_
    simp only [go_sem]
    refine ibr_intro (fun hc5 => ?_) (fun hc5 => ?_)
    · rw [if_t hc5] at hm1
      simp only [cw_skip, qblock_normal, qseq_normal]
      refine hK4 _ _ ?_
      refine cw_seq_k fun K6 hK6 => ?_
      have J7 : ∀ (all_5_1 : List halls_bound) (i5 : Nat) (t : Slots) (h : Heap), t 1 = .fs 1 (List.map eL_I open_) → t 2 = .fp [.fs 5 (List.map eComb h_.Combs), .fs 3 (List.map eTrain h_.Trains), .fs 3 (List.map eShift h_.Shifts), I h_.Until] 0 → t 5 = .rs i5 0 (List.length all_5_1) → t 18 = I (List.length h_.Combs : Int) → t 19 = I x_19 → h.ob i5 = some (1, List.map eP_halls_bound all_5_1) → i5 < h.nx → halls_bounds_j7 x_19 all_5_1 = some o → K6 t h := by
        intro all_5_1 i5 t h s1 s2 s5 s18 s19 ob_o5 lt_o5 hm1
        refine hK6 _ _ ?_
        unfold halls_bounds_j7 at hm1
        refine cw_reg_k fun K hK => ?_
        simp only [go_sem, s19, lt_o5, istr_of v5]
        refine hK _ _ ?_
        clear hK K
        simp only [qblock_normal, qseq_normal]
        obtain rfl := Option.some.inj hm1
        refine ⟨_, rfl, ?_⟩
        exact ⟨(.rs i5 0 (List.length all_5_1)), s1, s2, (by first | exact s5 | simp only [go_sem, s5, List.length_append, List.map_append]), s18, (by first | (simp only [go_sem, s19, List.length_append, List.map_append]; done) | rfl), (own_rs (by simp only [go_sem, ob_o5, lt_o5, List.length_append, List.map_append]) (by first | rfl | simp only [go_sem, List.length_append, List.map_append]) (by simp only [go_sem, lt_o5]))⟩
      simp only [cw_block]
      refine cw_reg_seq fun K hK => ?_
      simp only [go_sem, s19, istr_of v5]
      refine hK _ _ ?_
      clear hK K
      refine cw_reg_seq fun K hK => ?_
      simp only [go_sem, istr_of v5]
      refine hK _ _ ?_
      clear hK K
      refine cw_assoc ?_
      refine cw_reg_seq fun K hK => ?_
      simp only [go_sem, s2, istr_of v5]
      refine hK _ _ ?_
      clear hK K
      refine cw_seq_k fun K8 hK8 => ?_
      have J9 : ∀ (b_7_0 : List Int) (b_7_3 : List (List Int)) (v5_1 : AV) (i7 : Nat) (i7_1 : Nat) (i7_2 : Nat) (v7 : AV) (t : Slots) (h : Heap), t 1 = .fs 1 (List.map eL_I open_) → t 2 = .fp [.fs 5 (List.map eComb h_.Combs), .fs 3 (List.map eTrain h_.Trains), .fs 3 (List.map eShift h_.Shifts), I h_.Until] 0 → t 5 = v5_1 → t 6 = I x_19 → t 7 = .rp i7 0 0 → t 18 = I (List.length h_.Combs : Int) → t 19 = I x_19 → OwnS h v5_1 1 (List.map eP_halls_bound all_5) → h.ob i7 = some (4, [[.rs i7_1 0 (List.length b_7_0), .rs i7_2 0 (List.length ([0])), .v (.slice none 0 0), v7]]) → i7 < h.nx → h.ob i7_1 = some (1, List.map eI b_7_0) → i7_1 < h.nx → h.ob i7_2 = some (1, List.map eI ([0])) → i7_2 < h.nx → OwnS h v7 1 (List.map eL_I b_7_3) → NotId v5_1 i7 → NotId v5_1 i7_1 → NotId v5_1 i7_2 → (∀ j, ¬NotId v5_1 j → NotId v7 j) → ¬i7 = i7_1 → ¬i7 = i7_2 → NotId v7 i7 → ¬i7_1 = i7_2 → NotId v7 i7_1 → NotId v7 i7_2 → halls_bounds_j9 h_ open_ all_5 x_19 b_7_0 b_7_3 = some o → K8 t h := by
        intro b_7_0 b_7_3 v5_1 i7 i7_1 i7_2 v7 t h s1 s2 s5 s6 s7 s18 s19 ow_o5 ob_o7 lt_o7 ob_o7x lt_o7x ob_o7xx lt_o7xx ow_o7xxx ni_o5_o7 ni_o5_o7x ni_o5_o7xx di_o5_o7xxx ne_o7_o7x ne_o7_o7xx ni_o7_o7xxx ne_o7x_o7xx ni_o7x_o7xxx ni_o7xx_o7xxx hm1
        refine hK8 _ _ ?_
        unfold halls_bounds_j9 at hm1
        refine cw_assoc ?_
        refine cw_reg_seq fun K hK => ?_
        simp only [go_sem, s2, lt_o7, lt_o7x, lt_o7xx, istr_of v5, istr_of v5_1, istr_of v7]
        refine hK _ _ ?_
        clear hK K
        refine cw_seq_k fun K10 hK10 => ?_
        have J11 : ∀ (b_7_1 : List Int) (b_7_2 : List Int) (i7_3 : Nat) (v7_1 : AV) (v7_2 : AV) (t : Slots) (h : Heap), t 1 = .fs 1 (List.map eL_I open_) → t 2 = .fp [.fs 5 (List.map eComb h_.Combs), .fs 3 (List.map eTrain h_.Trains), .fs 3 (List.map eShift h_.Shifts), I h_.Until] 0 → t 5 = v5_1 → t 7 = .rp i7 0 0 → t 18 = I (List.length h_.Combs : Int) → t 19 = I x_19 → OwnS h v5_1 1 (List.map eP_halls_bound all_5) → h.ob i7 = some (4, [[.rs i7_1 0 (List.length b_7_0), .rs i7_3 0 (List.length b_7_1), v7_1, v7_2]]) → i7 < h.nx → h.ob i7_1 = some (1, List.map eI b_7_0) → i7_1 < h.nx → h.ob i7_3 = some (1, List.map eI b_7_1) → i7_3 < h.nx → OwnS h v7_1 1 (List.map eI b_7_2) → OwnS h v7_2 1 (List.map eL_I b_7_3) → NotId v5_1 i7 → NotId v5_1 i7_1 → NotId v5_1 i7_3 → (∀ j, ¬NotId v5_1 j → NotId v7_1 j) → (∀ j, ¬NotId v5_1 j → NotId v7_2 j) → ¬i7 = i7_1 → ¬i7 = i7_3 → NotId v7_1 i7 → NotId v7_2 i7 → ¬i7_1 = i7_3 → NotId v7_1 i7_1 → NotId v7_2 i7_1 → NotId v7_1 i7_3 → NotId v7_2 i7_3 → (∀ j, ¬NotId v7_1 j → NotId v7_2 j) → halls_bounds_j11 all_5 x_19 b_7_0 b_7_3 b_7_1 b_7_2 = some o → K10 t h := by
          try clear s1 s2 s5 s6 s7 s18 s19 ow_o5 ob_o7 lt_o7 ob_o7x lt_o7x ob_o7xx lt_o7xx ow_o7xxx ni_o5_o7 ni_o5_o7x ni_o5_o7xx di_o5_o7xxx ne_o7_o7x ne_o7_o7xx ni_o7_o7xxx ne_o7x_o7xx ni_o7x_o7xxx ni_o7xx_o7xxx
          intro b_7_1 b_7_2 i7_3 v7_1 v7_2 t h s1 s2 s5 s7 s18 s19 ow_o5 ob_o7 lt_o7 ob_o7x lt_o7x ob_o7xx lt_o7xx ow_o7xxx ow_o7xxxx ni_o5_o7 ni_o5_o7x ni_o5_o7xx di_o5_o7xxx di_o5_o7xxxx ne_o7_o7x ne_o7_o7xx ni_o7_o7xxx ni_o7_o7xxxx ne_o7x_o7xx ni_o7x_o7xxx ni_o7x_o7xxxx ni_o7xx_o7xxx ni_o7xx_o7xxxx di_o7xxx_o7xxxx hm1
          refine hK10 _ _ ?_
          unfold halls_bounds_j11 at hm1
          refine cw_ghost_deep (s := 7) (v := .rp i7 0 0) (y := .fp [.fs 1 (List.map eI b_7_0), .fs 1 (List.map eI b_7_1), .fs 1 (List.map eI b_7_2), .fs 1 (List.map eL_I b_7_3)] 0) (fun j => j == i7 || j == i7_1 || j == i7_3 || vidb v7_1 j || vidb v7_2 j) (by simp only [go_sem, s7, own_late ow_o5, ob_o7, lt_o7, ob_o7x, lt_o7x, ob_o7xx, lt_o7xx, own_late ow_o7xxx, own_late ow_o7xxxx, ni_o5_o7, ni_o5_o7x, ni_o5_o7xx, ne_o7_o7x, nsym ne_o7_o7x, ne_o7_o7xx, nsym ne_o7_o7xx, ni_o7_o7xxx, ni_o7_o7xxxx, ne_o7x_o7xx, nsym ne_o7x_o7xx, ni_o7x_o7xxx, ni_o7x_o7xxxx, ni_o7xx_o7xxx, ni_o7xx_o7xxxx, List.length_append, List.map_append]) (fz_rp (id := i7) (sz := 4) (xs := [.rs i7_1 0 (List.length b_7_0), .rs i7_3 0 (List.length b_7_1), v7_1, v7_2]) (by rw [only_ob (by simp)]; simp only [go_sem, own_late ow_o5, ob_o7, lt_o7, ob_o7x, lt_o7x, ob_o7xx, lt_o7xx, own_late ow_o7xxx, own_late ow_o7xxxx, ni_o5_o7, ni_o5_o7x, ni_o5_o7xx, ne_o7_o7x, nsym ne_o7_o7x, ne_o7_o7xx, nsym ne_o7_o7xx, ni_o7_o7xxx, ni_o7_o7xxxx, ne_o7x_o7xx, nsym ne_o7x_o7xx, ni_o7x_o7xxx, ni_o7x_o7xxxx, ni_o7xx_o7xxx, ni_o7xx_o7xxxx, List.length_append, List.map_append]) (.cons (fz_rs (f := eI) (l := b_7_0) (id := i7_1) (by rw [only_ob (by simp)]; simp only [go_sem, own_late ow_o5, ob_o7, lt_o7, ob_o7x, lt_o7x, ob_o7xx, lt_o7xx, own_late ow_o7xxx, own_late ow_o7xxxx, ni_o5_o7, ni_o5_o7x, ni_o5_o7xx, ne_o7_o7x, nsym ne_o7_o7x, ne_o7_o7xx, nsym ne_o7_o7xx, ni_o7_o7xxx, ni_o7_o7xxxx, ne_o7x_o7xx, nsym ne_o7x_o7xx, ni_o7x_o7xxx, ni_o7x_o7xxxx, ni_o7xx_o7xxx, ni_o7xx_o7xxxx, List.length_append, List.map_append]) (by first | rfl | simp only [go_sem, List.length_append, List.map_append]) fz_eI ln_eI) (.cons (fz_rs (f := eI) (l := b_7_1) (id := i7_3) (by rw [only_ob (by simp)]; simp only [go_sem, own_late ow_o5, ob_o7, lt_o7, ob_o7x, lt_o7x, ob_o7xx, lt_o7xx, own_late ow_o7xxx, own_late ow_o7xxxx, ni_o5_o7, ni_o5_o7x, ni_o5_o7xx, ne_o7_o7x, nsym ne_o7_o7x, ne_o7_o7xx, nsym ne_o7_o7xx, ni_o7_o7xxx, ni_o7_o7xxxx, ne_o7x_o7xx, nsym ne_o7x_o7xx, ni_o7x_o7xxx, ni_o7x_o7xxxx, ni_o7xx_o7xxx, ni_o7xx_o7xxxx, List.length_append, List.map_append]) (by first | rfl | simp only [go_sem, List.length_append, List.map_append]) fz_eI ln_eI) (.cons (fz_own (f := eI) (l := b_7_2) (own_only (own_later ow_o7xxx (by intro j hj hl; first | rfl | simp only [go_sem, hl, di_sym di_o5_o7xxx j hj, own_ne hj ni_o7_o7xxx, own_ne hj ni_o7x_o7xxx, own_ne hj ni_o7xx_o7xxx, di_o7xxx_o7xxxx j hj]) (by first | omega | exact Nat.le_refl _ | (simp only [go_sem, nxs] <;> omega))) (by intro j hj; simp [vidb_is hj])) fz_eI ln_eI) (.cons (fz_own (f := eL_I) (l := b_7_3) (own_only (own_later ow_o7xxxx (by intro j hj hl; first | rfl | simp only [go_sem, hl, di_sym di_o5_o7xxxx j hj, own_ne hj ni_o7_o7xxxx, own_ne hj ni_o7x_o7xxxx, own_ne hj ni_o7xx_o7xxxx, di_sym di_o7xxx_o7xxxx j hj]) (by first | omega | exact Nat.le_refl _ | (simp only [go_sem, nxs] <;> omega))) (by intro j hj; simp [vidb_is hj])) fz_eL_I ln_eL_I) (.nil)))))) (.fp _ _ (fz_cons (frz_fs fun a _ => fz_eI a) (fz_cons (frz_fs fun a _ => fz_eI a) (fz_cons (frz_fs fun a _ => fz_eI a) (fz_cons (frz_fs fun a _ => fz_eL_I a) fz_nil))))) ?_
          obtain ⟨l13, h_l13, hm1⟩ := bind_get hm1
          refine cw_reg_k fun K hK => ?_
          simp only [go_sem, s5, s7, lt_o7, lt_o7x, lt_o7xx, ni_o5_o7, ni_o5_o7x, ni_o5_o7xx, Bool.or_eq_false_iff, beq_eq_false_iff_ne, ne_eq, not_false_eq_true, and_self, vidb_own ow_o7xxx ni_o7_o7xxx, vidb_own ow_o7xxxx ni_o7_o7xxxx, vidb_own ow_o7xxx ni_o7x_o7xxx, vidb_own ow_o7xxxx ni_o7x_o7xxxx, vidb_own ow_o7xxx ni_o7xx_o7xxx, vidb_own ow_o7xxxx ni_o7xx_o7xxxx, istr_of v5, istr_of v5_1, istr_of v7, istr_of v7_1, istr_of v7_2]
          refine iapp_own (f := eP_halls_bound) (l := all_5) (m := ([(halls_bound.mk b_7_0 b_7_1 b_7_2 b_7_3)])) ?_ ?_ ?_ ?_ h_l13 ?_
          · exact (own_later ow_o5 (by intro j hj hl; first | rfl | simp only [go_sem, hl, own_ne hj ni_o5_o7, own_ne hj ni_o5_o7x, own_ne hj ni_o5_o7xx, di_o5_o7xxx j hj, vidb_own ow_o7xxx (di_o5_o7xxx j hj), di_o5_o7xxxx j hj, vidb_own ow_o7xxxx (di_o5_o7xxxx j hj), Bool.or_eq_false_iff, beq_eq_false_iff_ne, ne_eq, not_false_eq_true, and_self]) (by first | omega | exact Nat.le_refl _ | (simp only [go_sem, nxs] <;> omega)))
          · exact (ownx_rs (by simp only [go_sem, Bool.or_eq_false_iff, beq_eq_false_iff_ne, ne_eq, not_false_eq_true, and_self, vidb_own ow_o7xxx ni_o7_o7xxx, vidb_own ow_o7xxxx ni_o7_o7xxxx, vidb_own ow_o7xxx ni_o7x_o7xxx, vidb_own ow_o7xxxx ni_o7x_o7xxxx, vidb_own ow_o7xxx ni_o7xx_o7xxx, vidb_own ow_o7xxxx ni_o7xx_o7xxxx, own_late ow_o5, ob_o7, lt_o7, ob_o7x, lt_o7x, ob_o7xx, lt_o7xx, own_late ow_o7xxx, own_late ow_o7xxxx, ni_o5_o7, ni_o5_o7x, ni_o5_o7xx, ne_o7_o7x, nsym ne_o7_o7x, ne_o7_o7xx, nsym ne_o7_o7xx, ni_o7_o7xxx, ni_o7_o7xxxx, ne_o7x_o7xx, nsym ne_o7x_o7xx, ni_o7x_o7xxx, ni_o7x_o7xxxx, ni_o7xx_o7xxx, ni_o7xx_o7xxxx, List.length_append, List.map_append]) (by simp only [go_sem, Bool.or_eq_false_iff, beq_eq_false_iff_ne, ne_eq, not_false_eq_true, and_self, vidb_own ow_o7xxx ni_o7_o7xxx, vidb_own ow_o7xxxx ni_o7_o7xxxx, vidb_own ow_o7xxx ni_o7x_o7xxx, vidb_own ow_o7xxxx ni_o7x_o7xxxx, vidb_own ow_o7xxx ni_o7xx_o7xxx, vidb_own ow_o7xxxx ni_o7xx_o7xxxx, own_late ow_o5, ob_o7, lt_o7, ob_o7x, lt_o7x, ob_o7xx, lt_o7xx, own_late ow_o7xxx, own_late ow_o7xxxx, ni_o5_o7, ni_o5_o7x, ni_o5_o7xx, ne_o7_o7x, nsym ne_o7_o7x, ne_o7_o7xx, nsym ne_o7_o7xx, ni_o7_o7xxx, ni_o7_o7xxxx, ne_o7x_o7xx, nsym ne_o7x_o7xx, ni_o7x_o7xxx, ni_o7x_o7xxxx, ni_o7xx_o7xxx, ni_o7xx_o7xxxx, List.length_append, List.map_append]))
          · exact (nd_rs (by first | exact notid_nil | exact notid_rs (by first | omega | (simp only [nxs] <;> omega)) | assumption | exact own_notid (by assumption) (by first | omega | (simp only [go_sem, nxs] <;> omega))))
          · exact (fun _ => by simp)
          simp only [go_sem, s5, s7, lt_o7, lt_o7x, lt_o7xx, ni_o5_o7, ni_o5_o7x, ni_o5_o7xx, Bool.or_eq_false_iff, beq_eq_false_iff_ne, ne_eq, not_false_eq_true, and_self, vidb_own ow_o7xxx ni_o7_o7xxx, vidb_own ow_o7xxxx ni_o7_o7xxxx, vidb_own ow_o7xxx ni_o7x_o7xxx, vidb_own ow_o7xxxx ni_o7x_o7xxxx, vidb_own ow_o7xxx ni_o7xx_o7xxx, vidb_own ow_o7xxxx ni_o7xx_o7xxxx, istr_of v5, istr_of v5_1, istr_of v7, istr_of v7_1, istr_of v7_2]
          refine hK _ _ ?_
          clear hK K
          simp only [qblock_normal, qseq_normal]
          exact J7 l13 (nxs h.nx) _ _ s1 s2 (by first | (simp only [go_sem, s5, List.length_append, List.map_append]; done) | rfl) s18 s19 (by simp only [go_sem, Bool.or_eq_false_iff, beq_eq_false_iff_ne, ne_eq, not_false_eq_true, and_self, own_late ow_o5, lt_o7, lt_o7x, lt_o7xx, own_late ow_o7xxx, own_late ow_o7xxxx, List.length_append, List.map_append]) (by simp only [go_sem]) hm1
        simp only [cw_block]
        obtain ⟨b14, hl14, hm1⟩ := bind_get hm1
        refine cw_loopM hl14 (fun | (b_7_1, b_7_2, x_122), t, h => ∃ i7_3 : Nat, ∃ v7_1 : AV, ∃ v7_2 : AV, t 1 = .fs 1 (List.map eL_I open_) ∧ t 2 = .fp [.fs 5 (List.map eComb h_.Combs), .fs 3 (List.map eTrain h_.Trains), .fs 3 (List.map eShift h_.Shifts), I h_.Until] 0 ∧ t 5 = v5_1 ∧ t 6 = I x_19 ∧ t 7 = .rp i7 0 0 ∧ t 18 = I (List.length h_.Combs : Int) ∧ t 19 = I x_19 ∧ t 121 = I h_.Until ∧ t 122 = I x_122 ∧ OwnS h v5_1 1 (List.map eP_halls_bound all_5) ∧ h.ob i7 = some (4, [[.rs i7_1 0 (List.length b_7_0), .rs i7_3 0 (List.length b_7_1), v7_1, v7_2]]) ∧ i7 < h.nx ∧ h.ob i7_1 = some (1, List.map eI b_7_0) ∧ i7_1 < h.nx ∧ h.ob i7_3 = some (1, List.map eI b_7_1) ∧ i7_3 < h.nx ∧ OwnS h v7_1 1 (List.map eI b_7_2) ∧ OwnS h v7_2 1 (List.map eL_I b_7_3) ∧ NotId v5_1 i7 ∧ NotId v5_1 i7_1 ∧ NotId v5_1 i7_3 ∧ (∀ j, ¬NotId v5_1 j → NotId v7_1 j) ∧ (∀ j, ¬NotId v5_1 j → NotId v7_2 j) ∧ ¬i7 = i7_1 ∧ ¬i7 = i7_3 ∧ NotId v7_1 i7 ∧ NotId v7_2 i7 ∧ ¬i7_1 = i7_3 ∧ NotId v7_1 i7_1 ∧ NotId v7_2 i7_1 ∧ NotId v7_1 i7_3 ∧ NotId v7_2 i7_3 ∧ (∀ j, ¬NotId v7_1 j → NotId v7_2 j)) ?_ ?_
        · exact ⟨i7_2, (.v (.slice none 0 0)), v7, s1, s2, s5, s6, s7, s18, s19, (by first | (simp only [go_sem, List.length_append, List.map_append]; done) | rfl), (by first | (simp only [go_sem, List.length_append, List.map_append]; done) | rfl), ow_o5, ob_o7, lt_o7, ob_o7x, lt_o7x, ob_o7xx, lt_o7xx, own_nil', ow_o7xxx, ni_o5_o7, ni_o5_o7x, ni_o5_o7xx, (by first | exact dis_nil_l | exact dis_nil_r | assumption | (refine dis_rs_l ?_; first | assumption | exact own_notid (by assumption) (by first | assumption | omega | (simp only [nxs] <;> omega))) | (refine nd_rs ?_; first | assumption | exact own_notid (by assumption) (by first | assumption | omega | (simp only [nxs] <;> omega)))), di_o5_o7xxx, ne_o7_o7x, ne_o7_o7xx, (by first | exact notid_nil | exact notid_rs (by first | assumption | omega | (simp only [nxs] <;> omega)) | assumption | exact own_notid (by assumption) (by first | assumption | omega | (simp only [nxs] <;> omega))), ni_o7_o7xxx, ne_o7x_o7xx, (by first | exact notid_nil | exact notid_rs (by first | assumption | omega | (simp only [nxs] <;> omega)) | assumption | exact own_notid (by assumption) (by first | assumption | omega | (simp only [nxs] <;> omega))), ni_o7x_o7xxx, (by first | exact notid_nil | exact notid_rs (by first | assumption | omega | (simp only [nxs] <;> omega)) | assumption | exact own_notid (by assumption) (by first | assumption | omega | (simp only [nxs] <;> omega))), ni_o7xx_o7xxx, (by first | exact dis_nil_l | exact dis_nil_r | assumption | (refine dis_rs_l ?_; first | assumption | exact own_notid (by assumption) (by first | assumption | omega | (simp only [nxs] <;> omega))) | (refine nd_rs ?_; first | assumption | exact own_notid (by assumption) (by first | assumption | omega | (simp only [nxs] <;> omega))))⟩
        · try clear s1 s2 s5 s6 s7 s18 s19 ow_o5 ob_o7 lt_o7 ob_o7x lt_o7x ob_o7xx lt_o7xx ow_o7xxx ni_o5_o7 ni_o5_o7x ni_o5_o7xx di_o5_o7xxx ne_o7_o7x ne_o7_o7xx ni_o7_o7xxx ne_o7x_o7xx ni_o7x_o7xxx ni_o7xx_o7xxx
          rintro ⟨b_7_1, b_7_2, x_122⟩ o t h ⟨i7_3, v7_1, v7_2, s1, s2, s5, s6, s7, s18, s19, s121, s122, ow_o5, ob_o7, lt_o7, ob_o7x, lt_o7x, ob_o7xx, lt_o7xx, ow_o7xxx, ow_o7xxxx, ni_o5_o7, ni_o5_o7x, ni_o5_o7xx, di_o5_o7xxx, di_o5_o7xxxx, ne_o7_o7x, ne_o7_o7xx, ni_o7_o7xxx, ni_o7_o7xxxx, ne_o7x_o7xx, ni_o7x_o7xxx, ni_o7x_o7xxxx, ni_o7xx_o7xxx, ni_o7xx_o7xxxx, di_o7xxx_o7xxxx⟩ hm2 hb14
          simp only [halls_bounds_L39] at hm2
          rw [x_halls_bounds_L39]
          refine cw_reg_seq fun K hK => ?_
          simp only [go_sem, s121, s122, lt_o7, lt_o7x, lt_o7xx, istr_of v5, istr_of v5_1, istr_of v7, istr_of v7_1, istr_of v7_2]
          refine hK _ _ ?_
          clear hK K
          refine cw_seq_k fun K15 hK15 => ?_
          simp only [go_sem]
          refine ibr_intro (fun hc16 => ?_) (fun hc16 => ?_)
          · rw [if_t hc16] at hm2
            simp only [cw_skip, qblock_normal, qseq_normal]
            refine hK15 _ _ ?_
            refine cw_seq_k fun K17 hK17 => ?_
            have J18 : ∀ (b_7_1_1 : List Int) (b_7_2_1 : List Int) (i7_4 : Nat) (i7_5 : Nat) (v7_3 : AV) (t : Slots) (h : Heap), t 1 = .fs 1 (List.map eL_I open_) → t 2 = .fp [.fs 5 (List.map eComb h_.Combs), .fs 3 (List.map eTrain h_.Trains), .fs 3 (List.map eShift h_.Shifts), I h_.Until] 0 → t 5 = v5_1 → t 6 = I x_19 → t 7 = .rp i7 0 0 → t 18 = I (List.length h_.Combs : Int) → t 19 = I x_19 → t 121 = I h_.Until → t 122 = I x_122 → OwnS h v5_1 1 (List.map eP_halls_bound all_5) → h.ob i7 = some (4, [[.rs i7_1 0 (List.length b_7_0), .rs i7_4 0 (List.length b_7_1_1), .rs i7_5 0 (List.length b_7_2_1), v7_3]]) → i7 < h.nx → h.ob i7_1 = some (1, List.map eI b_7_0) → i7_1 < h.nx → h.ob i7_4 = some (1, List.map eI b_7_1_1) → i7_4 < h.nx → h.ob i7_5 = some (1, List.map eI b_7_2_1) → i7_5 < h.nx → OwnS h v7_3 1 (List.map eL_I b_7_3) → NotId v5_1 i7 → NotId v5_1 i7_1 → NotId v5_1 i7_4 → NotId v5_1 i7_5 → (∀ j, ¬NotId v5_1 j → NotId v7_3 j) → ¬i7 = i7_1 → ¬i7 = i7_4 → ¬i7 = i7_5 → NotId v7_3 i7 → ¬i7_1 = i7_4 → ¬i7_1 = i7_5 → NotId v7_3 i7_1 → ¬i7_4 = i7_5 → NotId v7_3 i7_4 → NotId v7_3 i7_5 → halls_bounds_j18 x_122 b_7_1_1 b_7_2_1 = some o → K17 t h := by
              try clear s1 s2 s5 s6 s7 s18 s19 s121 s122 ow_o5 ob_o7 lt_o7 ob_o7x lt_o7x ob_o7xx lt_o7xx ow_o7xxx ow_o7xxxx ni_o5_o7 ni_o5_o7x ni_o5_o7xx di_o5_o7xxx di_o5_o7xxxx ne_o7_o7x ne_o7_o7xx ni_o7_o7xxx ni_o7_o7xxxx ne_o7x_o7xx ni_o7x_o7xxx ni_o7x_o7xxxx ni_o7xx_o7xxx ni_o7xx_o7xxxx di_o7xxx_o7xxxx
              intro b_7_1_1 b_7_2_1 i7_4 i7_5 v7_3 t h s1 s2 s5 s6 s7 s18 s19 s121 s122 ow_o5 ob_o7 lt_o7 ob_o7x lt_o7x ob_o7xx lt_o7xx ob_o7xxx lt_o7xxx ow_o7xxxx ni_o5_o7 ni_o5_o7x ni_o5_o7xx ni_o5_o7xxx di_o5_o7xxxx ne_o7_o7x ne_o7_o7xx ne_o7_o7xxx ni_o7_o7xxxx ne_o7x_o7xx ne_o7x_o7xxx ni_o7x_o7xxxx ne_o7xx_o7xxx ni_o7xx_o7xxxx ni_o7xxx_o7xxxx hm2
              refine hK17 _ _ ?_
              unfold halls_bounds_j18 at hm2
              refine cw_reg_k fun K hK => ?_
              simp only [go_sem, s122, lt_o7, lt_o7x, lt_o7xx, lt_o7xxx, istr_of v5, istr_of v5_1, istr_of v7, istr_of v7_1, istr_of v7_2, istr_of v7_3]
              refine hK _ _ ?_
              clear hK K
              simp only [qblock_normal, qseq_normal]
              obtain rfl := Option.some.inj hm2
              refine ⟨_, rfl, ?_⟩
              exact ⟨i7_4, (.rs i7_5 0 (List.length b_7_2_1)), v7_3, s1, s2, s5, s6, s7, s18, s19, s121, (by first | (simp only [go_sem, s122, List.length_append, List.map_append]; done) | rfl), ow_o5, ob_o7, lt_o7, ob_o7x, lt_o7x, ob_o7xx, lt_o7xx, (own_rs (by simp only [go_sem, ob_o7xxx, lt_o7xxx, List.length_append, List.map_append]) (by first | rfl | simp only [go_sem, List.length_append, List.map_append]) (by simp only [go_sem, lt_o7xxx])), ow_o7xxxx, ni_o5_o7, ni_o5_o7x, ni_o5_o7xx, (by first | exact dis_nil_l | exact dis_nil_r | assumption | (refine dis_rs_l ?_; first | assumption | exact own_notid (by assumption) (by first | assumption | omega | (simp only [nxs] <;> omega))) | (refine nd_rs ?_; first | assumption | exact own_notid (by assumption) (by first | assumption | omega | (simp only [nxs] <;> omega)))), di_o5_o7xxxx, ne_o7_o7x, ne_o7_o7xx, (by first | exact notid_nil | exact notid_rs (by first | assumption | omega | (simp only [nxs] <;> omega)) | assumption | exact own_notid (by assumption) (by first | assumption | omega | (simp only [nxs] <;> omega))), ni_o7_o7xxxx, ne_o7x_o7xx, (by first | exact notid_nil | exact notid_rs (by first | assumption | omega | (simp only [nxs] <;> omega)) | assumption | exact own_notid (by assumption) (by first | assumption | omega | (simp only [nxs] <;> omega))), ni_o7x_o7xxxx, (by first | exact notid_nil | exact notid_rs (by first | assumption | omega | (simp only [nxs] <;> omega)) | assumption | exact own_notid (by assumption) (by first | assumption | omega | (simp only [nxs] <;> omega))), ni_o7xx_o7xxxx, (by first | exact dis_nil_l | exact dis_nil_r | assumption | (refine dis_rs_l ?_; first | assumption | exact own_notid (by assumption) (by first | assumption | omega | (simp only [nxs] <;> omega))) | (refine nd_rs ?_; first | assumption | exact own_notid (by assumption) (by first | assumption | omega | (simp only [nxs] <;> omega))))⟩
            simp only [cw_block]
            refine cw_reg_seq fun K hK => ?_
            simp only [go_sem, s122, lt_o7, lt_o7x, lt_o7xx, istr_of v5, istr_of v5_1, istr_of v7, istr_of v7_1, istr_of v7_2]
            refine hK _ _ ?_
            clear hK K
            refine cw_reg_seq fun K hK => ?_
            simp only [go_sem, lt_o7, lt_o7x, lt_o7xx, istr_of v5, istr_of v5_1, istr_of v7, istr_of v7_1, istr_of v7_2]
            refine hK _ _ ?_
            clear hK K
            refine cw_assoc ?_
            refine cw_reg_seq fun K hK => ?_
            simp only [go_sem, lt_o7, lt_o7x, lt_o7xx, istr_of v5, istr_of v5_1, istr_of v7, istr_of v7_1, istr_of v7_2]
            refine hK _ _ ?_
            clear hK K
            refine cw_seq_k fun K19 hK19 => ?_
            have J20 : ∀ (most_14 : Int) (v7_3 : AV) (t : Slots) (h : Heap), t 1 = .fs 1 (List.map eL_I open_) → t 2 = .fp [.fs 5 (List.map eComb h_.Combs), .fs 3 (List.map eTrain h_.Trains), .fs 3 (List.map eShift h_.Shifts), I h_.Until] 0 → t 5 = v5_1 → t 6 = I x_19 → t 7 = .rp i7 0 0 → t 13 = I x_122 → t 14 = I most_14 → t 18 = I (List.length h_.Combs : Int) → t 19 = I x_19 → t 121 = I h_.Until → t 122 = I x_122 → OwnS h v5_1 1 (List.map eP_halls_bound all_5) → h.ob i7 = some (4, [[.rs i7_1 0 (List.length b_7_0), .rs i7_3 0 (List.length b_7_1), v7_1, v7_3]]) → i7 < h.nx → h.ob i7_1 = some (1, List.map eI b_7_0) → i7_1 < h.nx → h.ob i7_3 = some (1, List.map eI b_7_1) → i7_3 < h.nx → OwnS h v7_1 1 (List.map eI b_7_2) → OwnS h v7_3 1 (List.map eL_I b_7_3) → NotId v5_1 i7 → NotId v5_1 i7_1 → NotId v5_1 i7_3 → (∀ j, ¬NotId v5_1 j → NotId v7_1 j) → (∀ j, ¬NotId v5_1 j → NotId v7_3 j) → ¬i7 = i7_1 → ¬i7 = i7_3 → NotId v7_1 i7 → NotId v7_3 i7 → ¬i7_1 = i7_3 → NotId v7_1 i7_1 → NotId v7_3 i7_1 → NotId v7_1 i7_3 → NotId v7_3 i7_3 → (∀ j, ¬NotId v7_1 j → NotId v7_3 j) → halls_bounds_j20 open_ x_19 b_7_1 b_7_2 x_122 most_14 = some o → K19 t h := by
              try clear s1 s2 s5 s6 s7 s18 s19 s121 s122 ow_o5 ob_o7 lt_o7 ob_o7x lt_o7x ob_o7xx lt_o7xx ow_o7xxx ow_o7xxxx ni_o5_o7 ni_o5_o7x ni_o5_o7xx di_o5_o7xxx di_o5_o7xxxx ne_o7_o7x ne_o7_o7xx ni_o7_o7xxx ni_o7_o7xxxx ne_o7x_o7xx ni_o7x_o7xxx ni_o7x_o7xxxx ni_o7xx_o7xxx ni_o7xx_o7xxxx di_o7xxx_o7xxxx
              intro most_14 v7_3 t h s1 s2 s5 s6 s7 s13 s14 s18 s19 s121 s122 ow_o5 ob_o7 lt_o7 ob_o7x lt_o7x ob_o7xx lt_o7xx ow_o7xxx ow_o7xxxx ni_o5_o7 ni_o5_o7x ni_o5_o7xx di_o5_o7xxx di_o5_o7xxxx ne_o7_o7x ne_o7_o7xx ni_o7_o7xxx ni_o7_o7xxxx ne_o7x_o7xx ni_o7x_o7xxx ni_o7x_o7xxxx ni_o7xx_o7xxx ni_o7xx_o7xxxx di_o7xxx_o7xxxx hm2
              refine hK19 _ _ ?_
              unfold halls_bounds_j20 at hm2
              obtain ⟨l22, h_l22, hm2⟩ := bind_get hm2
              refine cw_reg_seq fun K hK => ?_
              simp only [go_sem, s7, s14, ob_o7, lt_o7, ob_o7x, lt_o7x, ob_o7xx, lt_o7xx, ni_o5_o7, ni_o5_o7x, ni_o5_o7xx, ne_o7_o7x, nsym ne_o7_o7x, ne_o7_o7xx, nsym ne_o7_o7xx, ni_o7_o7xxx, ni_o7_o7xxxx, ne_o7x_o7xx, nsym ne_o7x_o7xx, ni_o7x_o7xxx, ni_o7x_o7xxxx, ni_o7xx_o7xxx, ni_o7xx_o7xxxx, istr_of v5, istr_of v5_1, istr_of v7, istr_of v7_1, istr_of v7_2, istr_of v7_3]
              refine iapp_own (f := eI) (l := b_7_2) (m := ([most_14])) ?_ ?_ ?_ ?_ h_l22 ?_
              · exact (own_later ow_o7xxx (by intro j hj hl; first | rfl | simp only [go_sem, hl, di_sym di_o5_o7xxx j hj, own_ne hj ni_o7_o7xxx, own_ne hj ni_o7x_o7xxx, own_ne hj ni_o7xx_o7xxx, di_o7xxx_o7xxxx j hj]) (by first | omega | exact Nat.le_refl _ | (simp only [go_sem, nxs] <;> omega)))
              · exact (ownx_rs (by simp only [go_sem, own_late ow_o5, ob_o7, lt_o7, ob_o7x, lt_o7x, ob_o7xx, lt_o7xx, own_late ow_o7xxx, own_late ow_o7xxxx, ni_o5_o7, ni_o5_o7x, ni_o5_o7xx, ne_o7_o7x, nsym ne_o7_o7x, ne_o7_o7xx, nsym ne_o7_o7xx, ni_o7_o7xxx, ni_o7_o7xxxx, ne_o7x_o7xx, nsym ne_o7x_o7xx, ni_o7x_o7xxx, ni_o7x_o7xxxx, ni_o7xx_o7xxx, ni_o7xx_o7xxxx, List.length_append, List.map_append]) (by simp only [go_sem, own_late ow_o5, ob_o7, lt_o7, ob_o7x, lt_o7x, ob_o7xx, lt_o7xx, own_late ow_o7xxx, own_late ow_o7xxxx, ni_o5_o7, ni_o5_o7x, ni_o5_o7xx, ne_o7_o7x, nsym ne_o7_o7x, ne_o7_o7xx, nsym ne_o7_o7xx, ni_o7_o7xxx, ni_o7_o7xxxx, ne_o7x_o7xx, nsym ne_o7x_o7xx, ni_o7x_o7xxx, ni_o7x_o7xxxx, ni_o7xx_o7xxx, ni_o7xx_o7xxxx, List.length_append, List.map_append]))
              · exact (nd_rs (by first | exact notid_nil | exact notid_rs (by first | omega | (simp only [nxs] <;> omega)) | assumption | exact own_notid (by assumption) (by first | omega | (simp only [go_sem, nxs] <;> omega))))
              · exact (fun _ => by simp)
              simp only [go_sem, s7, s14, ob_o7, lt_o7, ob_o7x, lt_o7x, ob_o7xx, lt_o7xx, ni_o5_o7, ni_o5_o7x, ni_o5_o7xx, ne_o7_o7x, nsym ne_o7_o7x, ne_o7_o7xx, nsym ne_o7_o7xx, ni_o7_o7xxx, ni_o7_o7xxxx, ne_o7x_o7xx, nsym ne_o7x_o7xx, ni_o7x_o7xxx, ni_o7x_o7xxxx, ni_o7xx_o7xxx, ni_o7xx_o7xxxx, istr_of v5, istr_of v5_1, istr_of v7, istr_of v7_1, istr_of v7_2, istr_of v7_3]
              refine hK _ _ ?_
              clear hK K
              obtain ⟨x27, h_x27, hm2⟩ := bind_get hm2
              have h_x270 := get_nn h_x27
              have h_x271 := get_lt h_x27
              obtain ⟨x28, h_x28, hm2⟩ := bind_get hm2
              have h_x280 := get_nn h_x28
              have h_x281 := get_lt h_x28
              obtain ⟨x29, h_x29, hm2⟩ := bind_get hm2
              have h_x290 := get_nn h_x29
              have h_x291 := get_lt h_x29
              obtain ⟨l30, h_l30, hm2⟩ := bind_get hm2
              refine cw_reg_k fun K hK => ?_
              simp only [go_sem, s1, s6, s7, s13, s14, ob_o7, lt_o7, ob_o7x, lt_o7x, ob_o7xx, lt_o7xx, ni_o5_o7, ni_o5_o7x, ni_o5_o7xx, ne_o7_o7x, nsym ne_o7_o7x, ne_o7_o7xx, nsym ne_o7_o7xx, ni_o7_o7xxx, ni_o7_o7xxxx, ne_o7x_o7xx, nsym ne_o7x_o7xx, ni_o7x_o7xxx, ni_o7x_o7xxxx, ni_o7xx_o7xxx, ni_o7xx_o7xxxx, ielem_get h_x27, irow_get h_x27, h_x270, h_x271, ielem_get h_x28, irow_get h_x28, h_x280, h_x281, ielem_get h_x29, irow_get h_x29, h_x290, h_x291, istr_of v5, istr_of v5_1, istr_of v7, istr_of v7_1, istr_of v7_2, istr_of v7_3]
              refine iapp_own (f := eI) (l := b_7_1) (m := ([wr (x27 + (mn most_14 x29))])) ?_ ?_ ?_ ?_ h_l30 ?_
              · exact (own_rs (by simp only [go_sem, own_late ow_o5, ob_o7, lt_o7, ob_o7x, lt_o7x, ob_o7xx, lt_o7xx, own_late ow_o7xxx, own_late ow_o7xxxx, ni_o5_o7, ni_o5_o7x, ni_o5_o7xx, ne_o7_o7x, nsym ne_o7_o7x, ne_o7_o7xx, nsym ne_o7_o7xx, ni_o7_o7xxx, ni_o7_o7xxxx, ne_o7x_o7xx, nsym ne_o7x_o7xx, ni_o7x_o7xxx, ni_o7x_o7xxxx, ni_o7xx_o7xxx, ni_o7xx_o7xxxx, List.length_append, List.map_append]) (by simp only [go_sem, own_late ow_o5, ob_o7, lt_o7, ob_o7x, lt_o7x, ob_o7xx, lt_o7xx, own_late ow_o7xxx, own_late ow_o7xxxx, ni_o5_o7, ni_o5_o7x, ni_o5_o7xx, ne_o7_o7x, nsym ne_o7_o7x, ne_o7_o7xx, nsym ne_o7_o7xx, ni_o7_o7xxx, ni_o7_o7xxxx, ne_o7x_o7xx, nsym ne_o7x_o7xx, ni_o7x_o7xxx, ni_o7x_o7xxxx, ni_o7xx_o7xxx, ni_o7xx_o7xxxx, List.length_append, List.map_append]) (by simp only [go_sem, lt_o7, lt_o7x, lt_o7xx]))
              · exact (ownx_rs (by simp only [go_sem, own_late ow_o5, ob_o7, lt_o7, ob_o7x, lt_o7x, ob_o7xx, lt_o7xx, own_late ow_o7xxx, own_late ow_o7xxxx, ni_o5_o7, ni_o5_o7x, ni_o5_o7xx, ne_o7_o7x, nsym ne_o7_o7x, ne_o7_o7xx, nsym ne_o7_o7xx, ni_o7_o7xxx, ni_o7_o7xxxx, ne_o7x_o7xx, nsym ne_o7x_o7xx, ni_o7x_o7xxx, ni_o7x_o7xxxx, ni_o7xx_o7xxx, ni_o7xx_o7xxxx, List.length_append, List.map_append]) (by simp only [go_sem, own_late ow_o5, ob_o7, lt_o7, ob_o7x, lt_o7x, ob_o7xx, lt_o7xx, own_late ow_o7xxx, own_late ow_o7xxxx, ni_o5_o7, ni_o5_o7x, ni_o5_o7xx, ne_o7_o7x, nsym ne_o7_o7x, ne_o7_o7xx, nsym ne_o7_o7xx, ni_o7_o7xxx, ni_o7_o7xxxx, ne_o7x_o7xx, nsym ne_o7x_o7xx, ni_o7x_o7xxx, ni_o7x_o7xxxx, ni_o7xx_o7xxx, ni_o7xx_o7xxxx, List.length_append, List.map_append]))
              · exact (nd_rs (by first | exact notid_nil | exact notid_rs (by first | omega | (simp only [nxs] <;> omega)) | assumption | exact own_notid (by assumption) (by first | omega | (simp only [go_sem, nxs] <;> omega))))
              · exact (fun _ => by simp)
              simp only [go_sem, s1, s6, s7, s13, s14, ob_o7, lt_o7, ob_o7x, lt_o7x, ob_o7xx, lt_o7xx, ni_o5_o7, ni_o5_o7x, ni_o5_o7xx, ne_o7_o7x, nsym ne_o7_o7x, ne_o7_o7xx, nsym ne_o7_o7xx, ni_o7_o7xxx, ni_o7_o7xxxx, ne_o7x_o7xx, nsym ne_o7x_o7xx, ni_o7x_o7xxx, ni_o7x_o7xxxx, ni_o7xx_o7xxx, ni_o7xx_o7xxxx, ielem_get h_x27, irow_get h_x27, h_x270, h_x271, ielem_get h_x28, irow_get h_x28, h_x280, h_x281, ielem_get h_x29, irow_get h_x29, h_x290, h_x291, istr_of v5, istr_of v5_1, istr_of v7, istr_of v7_1, istr_of v7_2, istr_of v7_3]
              refine hK _ _ ?_
              clear hK K
              simp only [qblock_normal, qseq_normal]
              exact J18 l30 l22 (nxs (nxs (nxs h.nx))) (nxs h.nx) v7_3 _ _ s1 s2 s5 s6 s7 s18 s19 s121 s122 (own_later ow_o5 (by intro j hj hl; first | rfl | simp only [go_sem, hl, lt_o7, lt_o7xx, own_ne hj ni_o5_o7, own_ne hj ni_o5_o7xx, di_o5_o7xxx j hj]) (by first | omega | exact Nat.le_refl _ | (simp only [go_sem, nxs] <;> omega))) (by simp only [go_sem, ob_o7, lt_o7, lt_o7xx, own_late ow_o7xxx, ne_o7_o7xx, nsym ne_o7_o7xx, ni_o7_o7xxx, List.length_append, List.map_append]) (by simp only [go_sem, lt_o7]) (by simp only [go_sem, lt_o7, ob_o7x, lt_o7x, lt_o7xx, own_late ow_o7xxx, ne_o7_o7x, nsym ne_o7_o7x, ne_o7x_o7xx, nsym ne_o7x_o7xx, ni_o7x_o7xxx, List.length_append, List.map_append]) (by simp only [go_sem, lt_o7x]) (by simp only [go_sem, lt_o7, lt_o7xx, own_late ow_o7xxx, List.length_append, List.map_append]) (by simp only [go_sem]) (by simp only [go_sem, lt_o7, lt_o7xx, own_late ow_o7xxx, List.length_append, List.map_append]) (by simp only [go_sem]) (own_later ow_o7xxxx (by intro j hj hl; first | rfl | simp only [go_sem, hl, lt_o7, lt_o7xx, own_ne hj ni_o7_o7xxxx, own_ne hj ni_o7xx_o7xxxx, di_sym di_o7xxx_o7xxxx j hj]) (by first | omega | exact Nat.le_refl _ | (simp only [go_sem, nxs] <;> omega))) ni_o5_o7 ni_o5_o7x (by first | exact notid_nil | exact notid_rs (by first | assumption | omega | (simp only [nxs] <;> omega)) | assumption | exact own_notid (by assumption) (by first | assumption | omega | (simp only [nxs] <;> omega))) (by first | exact notid_nil | exact notid_rs (by first | assumption | omega | (simp only [nxs] <;> omega)) | assumption | exact own_notid (by assumption) (by first | assumption | omega | (simp only [nxs] <;> omega))) di_o5_o7xxxx ne_o7_o7x (by first | first | assumption | omega | (simp only [nxs] <;> omega)) (by first | first | assumption | omega | (simp only [nxs] <;> omega)) ni_o7_o7xxxx (by first | first | assumption | omega | (simp only [nxs] <;> omega)) (by first | first | assumption | omega | (simp only [nxs] <;> omega)) ni_o7x_o7xxxx (by first | first | assumption | omega | (simp only [nxs] <;> omega)) (by first | exact notid_nil | exact notid_rs (by first | assumption | omega | (simp only [nxs] <;> omega)) | assumption | exact own_notid (by assumption) (by first | assumption | omega | (simp only [nxs] <;> omega))) (by first | exact notid_nil | exact notid_rs (by first | assumption | omega | (simp only [nxs] <;> omega)) | assumption | exact own_notid (by assumption) (by first | assumption | omega | (simp only [nxs] <;> omega))) hm2
            simp only [cw_block]
            obtain ⟨b31, hl31, hm2⟩ := bind_get hm2
            refine cw_loopM hl31 (fun | (most_14, x_127), t, h => ∃ v7_3 : AV, t 1 = .fs 1 (List.map eL_I open_) ∧ t 2 = .fp [.fs 5 (List.map eComb h_.Combs), .fs 3 (List.map eTrain h_.Trains), .fs 3 (List.map eShift h_.Shifts), I h_.Until] 0 ∧ t 5 = v5_1 ∧ t 6 = I x_19 ∧ t 7 = .rp i7 0 0 ∧ t 13 = I x_122 ∧ t 14 = I most_14 ∧ t 18 = I (List.length h_.Combs : Int) ∧ t 19 = I x_19 ∧ t 121 = I h_.Until ∧ t 122 = I x_122 ∧ t 126 = I (wr (x_122 + 1)) ∧ t 127 = I x_127 ∧ OwnS h v5_1 1 (List.map eP_halls_bound all_5) ∧ h.ob i7 = some (4, [[.rs i7_1 0 (List.length b_7_0), .rs i7_3 0 (List.length b_7_1), v7_1, v7_3]]) ∧ i7 < h.nx ∧ h.ob i7_1 = some (1, List.map eI b_7_0) ∧ i7_1 < h.nx ∧ h.ob i7_3 = some (1, List.map eI b_7_1) ∧ i7_3 < h.nx ∧ OwnS h v7_1 1 (List.map eI b_7_2) ∧ OwnS h v7_3 1 (List.map eL_I b_7_3) ∧ NotId v5_1 i7 ∧ NotId v5_1 i7_1 ∧ NotId v5_1 i7_3 ∧ (∀ j, ¬NotId v5_1 j → NotId v7_1 j) ∧ (∀ j, ¬NotId v5_1 j → NotId v7_3 j) ∧ ¬i7 = i7_1 ∧ ¬i7 = i7_3 ∧ NotId v7_1 i7 ∧ NotId v7_3 i7 ∧ ¬i7_1 = i7_3 ∧ NotId v7_1 i7_1 ∧ NotId v7_3 i7_1 ∧ NotId v7_1 i7_3 ∧ NotId v7_3 i7_3 ∧ (∀ j, ¬NotId v7_1 j → NotId v7_3 j)) ?_ ?_
            · exact ⟨v7_2, s1, s2, s5, s6, s7, (by first | (simp only [go_sem, List.length_append, List.map_append]; done) | rfl), (by first | (simp only [go_sem, List.length_append, List.map_append]; done) | rfl), s18, s19, s121, s122, (by first | (simp only [go_sem, List.length_append, List.map_append]; done) | rfl), (by first | (simp only [go_sem, List.length_append, List.map_append]; done) | rfl), ow_o5, ob_o7, lt_o7, ob_o7x, lt_o7x, ob_o7xx, lt_o7xx, ow_o7xxx, ow_o7xxxx, ni_o5_o7, ni_o5_o7x, ni_o5_o7xx, di_o5_o7xxx, di_o5_o7xxxx, ne_o7_o7x, ne_o7_o7xx, ni_o7_o7xxx, ni_o7_o7xxxx, ne_o7x_o7xx, ni_o7x_o7xxx, ni_o7x_o7xxxx, ni_o7xx_o7xxx, ni_o7xx_o7xxxx, di_o7xxx_o7xxxx⟩
            · try clear s1 s2 s5 s6 s7 s18 s19 s121 s122 ow_o5 ob_o7 lt_o7 ob_o7x lt_o7x ob_o7xx lt_o7xx ow_o7xxx ow_o7xxxx ni_o5_o7 ni_o5_o7x ni_o5_o7xx di_o5_o7xxx di_o5_o7xxxx ne_o7_o7x ne_o7_o7xx ni_o7_o7xxx ni_o7_o7xxxx ne_o7x_o7xx ni_o7x_o7xxx ni_o7x_o7xxxx ni_o7xx_o7xxx ni_o7xx_o7xxxx di_o7xxx_o7xxxx
              rintro ⟨most_14, x_127⟩ o t h ⟨v7_3, s1, s2, s5, s6, s7, s13, s14, s18, s19, s121, s122, s126, s127, ow_o5, ob_o7, lt_o7, ob_o7x, lt_o7x, ob_o7xx, lt_o7xx, ow_o7xxx, ow_o7xxxx, ni_o5_o7, ni_o5_o7x, ni_o5_o7xx, di_o5_o7xxx, di_o5_o7xxxx, ne_o7_o7x, ne_o7_o7xx, ni_o7_o7xxx, ni_o7_o7xxxx, ne_o7x_o7xx, ni_o7x_o7xxx, ni_o7x_o7xxxx, ni_o7xx_o7xxx, ni_o7xx_o7xxxx, di_o7xxx_o7xxxx⟩ hm3 hb31
              simp only [halls_bounds_L35] at hm3
              rw [x_halls_bounds_L35]
              refine cw_reg_seq fun K hK => ?_
              simp only [go_sem, s126, s127, lt_o7, lt_o7x, lt_o7xx, istr_of v5, istr_of v5_1, istr_of v7, istr_of v7_1, istr_of v7_2, istr_of v7_3]
              refine hK _ _ ?_
              clear hK K
              refine cw_seq_k fun K32 hK32 => ?_
              simp only [go_sem]
              refine ibr_intro (fun hc33 => ?_) (fun hc33 => ?_)
              · rw [if_t hc33] at hm3
                simp only [cw_skip, qblock_normal, qseq_normal]
                refine hK32 _ _ ?_
                refine cw_seq_k fun K34 hK34 => ?_
                simp only [cw_block]
                refine cw_reg_seq fun K hK => ?_
                simp only [go_sem, s127, lt_o7, lt_o7x, lt_o7xx, istr_of v5, istr_of v5_1, istr_of v7, istr_of v7_1, istr_of v7_2, istr_of v7_3]
                refine hK _ _ ?_
                clear hK K
                obtain ⟨x40, h_x40, hm3⟩ := bind_get hm3
                have h_x400 := get_nn h_x40
                have h_x401 := get_lt h_x40
                obtain ⟨iq41, rfl, ob_o7xxxx, lt_o7xxxx⟩ := own_get ow_o7xxxx h_x40
                obtain ⟨x42, h_x42, hm3⟩ := bind_get hm3
                have h_x420 := get_nn h_x42
                have h_x421 := get_lt h_x42
                obtain ⟨x43, h_x43, hm3⟩ := bind_get hm3
                have h_x430 := get_nn h_x43
                have h_x431 := get_lt h_x43
                obtain ⟨x44, h_x44, hm3⟩ := bind_get hm3
                have h_x440 := get_nn h_x44
                have h_x441 := get_lt h_x44
                refine cw_reg_k fun K hK => ?_
                simp only [go_sem, s7, s13, s14, ob_o7, lt_o7, ob_o7x, lt_o7x, ob_o7xx, lt_o7xx, ob_o7xxxx, lt_o7xxxx, ni_o5_o7, ni_o5_o7x, ni_o5_o7xx, ne_o7_o7x, nsym ne_o7_o7x, ne_o7_o7xx, nsym ne_o7_o7xx, ni_o7_o7xxx, ni_o7_o7xxxx, ne_o7x_o7xx, nsym ne_o7x_o7xx, ni_o7x_o7xxx, ni_o7x_o7xxxx, ni_o7xx_o7xxx, ni_o7xx_o7xxxx, ielem_get h_x40, irow_get h_x40, h_x400, h_x401, ielem_get h_x42, irow_get h_x42, h_x420, h_x421, ielem_get h_x43, irow_get h_x43, h_x430, h_x431, ielem_get h_x44, irow_get h_x44, h_x440, h_x441, istr_of v5, istr_of v5_1, istr_of v7, istr_of v7_1, istr_of v7_2]
                refine hK _ _ ?_
                clear hK K
                simp only [qblock_normal, qseq_normal]
                refine hK34 _ _ ?_
                refine cw_reg_k fun K hK => ?_
                simp only [go_sem, s127, lt_o7, lt_o7x, lt_o7xx, lt_o7xxxx, istr_of v5, istr_of v5_1, istr_of v7, istr_of v7_1, istr_of v7_2]
                refine hK _ _ ?_
                clear hK K
                simp only [qblock_normal, qseq_normal]
                obtain rfl := Option.some.inj hm3
                refine ⟨_, rfl, ?_⟩
                exact ⟨(.rs iq41 0 (List.length b_7_3)), s1, s2, s5, s6, s7, s13, (by first | (simp only [go_sem, s14, List.length_append, List.map_append]; done) | rfl), s18, s19, s121, s122, s126, (by first | (simp only [go_sem, s127, List.length_append, List.map_append]; done) | rfl), ow_o5, (by simp only [go_sem, ob_o7, lt_o7, List.length_append, List.map_append]), (by simp only [go_sem, lt_o7]), ob_o7x, lt_o7x, ob_o7xx, lt_o7xx, ow_o7xxx, (own_rs (by simp only [go_sem, ob_o7xxxx, lt_o7xxxx, List.length_append, List.map_append]) (by first | rfl | simp only [go_sem, List.length_append, List.map_append]) (by simp only [go_sem, lt_o7xxxx])), ni_o5_o7, ni_o5_o7x, ni_o5_o7xx, di_o5_o7xxx, di_o5_o7xxxx, ne_o7_o7x, ne_o7_o7xx, ni_o7_o7xxx, ni_o7_o7xxxx, ne_o7x_o7xx, ni_o7x_o7xxx, ni_o7x_o7xxxx, ni_o7xx_o7xxx, ni_o7xx_o7xxxx, di_o7xxx_o7xxxx⟩
              · rw [if_f hc33] at hm3
                simp only [cw_exit, qseq_exit, qblock_same, qblock_ne, qblock_normal, qseq_normal, Nat.reduceEqDiff, not_false_eq_true]
                obtain rfl := Option.some.inj hm3
                obtain rfl := hb31 _ rfl
                try dsimp only at hm2
                exact J20 most_14 v7_3 _ _ s1 s2 s5 s6 s7 s13 s14 s18 s19 s121 s122 ow_o5 ob_o7 lt_o7 ob_o7x lt_o7x ob_o7xx lt_o7xx ow_o7xxx ow_o7xxxx ni_o5_o7 ni_o5_o7x ni_o5_o7xx di_o5_o7xxx di_o5_o7xxxx ne_o7_o7x ne_o7_o7xx ni_o7_o7xxx ni_o7_o7xxxx ne_o7x_o7xx ni_o7x_o7xxx ni_o7x_o7xxxx ni_o7xx_o7xxx ni_o7xx_o7xxxx di_o7xxx_o7xxxx hm2
          · rw [if_f hc16] at hm2
            simp only [cw_exit, qseq_exit, qblock_same, qblock_ne, qblock_normal, qseq_normal, Nat.reduceEqDiff, not_false_eq_true]
            obtain rfl := Option.some.inj hm2
            obtain rfl := hb14 _ rfl
            try dsimp only at hm1
            exact J11 b_7_1 b_7_2 i7_3 v7_1 v7_2 _ _ s1 s2 s5 s7 s18 s19 ow_o5 ob_o7 lt_o7 ob_o7x lt_o7x ob_o7xx lt_o7xx ow_o7xxx ow_o7xxxx ni_o5_o7 ni_o5_o7x ni_o5_o7xx di_o5_o7xxx di_o5_o7xxxx ne_o7_o7x ne_o7_o7xx ni_o7_o7xxx ni_o7_o7xxxx ne_o7x_o7xx ni_o7x_o7xxx ni_o7x_o7xxxx ni_o7xx_o7xxx ni_o7xx_o7xxxx di_o7xxx_o7xxxx hm1
      simp only [cw_block]
      obtain ⟨b47, hl47, hm1⟩ := bind_get hm1
      refine cw_loopM hl47 (fun | (b_7_0, b_7_3, x_28), t, h => ∃ v5_1 : AV, ∃ i7 : Nat, ∃ i7_1 : Nat, ∃ i7_2 : Nat, ∃ v7 : AV, t 1 = .fs 1 (List.map eL_I open_) ∧ t 2 = .fp [.fs 5 (List.map eComb h_.Combs), .fs 3 (List.map eTrain h_.Trains), .fs 3 (List.map eShift h_.Shifts), I h_.Until] 0 ∧ t 5 = v5_1 ∧ t 6 = I x_19 ∧ t 7 = .rp i7 0 0 ∧ t 18 = I (List.length h_.Combs : Int) ∧ t 19 = I x_19 ∧ t 27 = I h_.Until ∧ t 28 = I x_28 ∧ OwnS h v5_1 1 (List.map eP_halls_bound all_5) ∧ h.ob i7 = some (4, [[.rs i7_1 0 (List.length b_7_0), .rs i7_2 0 (List.length ([0])), .v (.slice none 0 0), v7]]) ∧ i7 < h.nx ∧ h.ob i7_1 = some (1, List.map eI b_7_0) ∧ i7_1 < h.nx ∧ h.ob i7_2 = some (1, List.map eI ([0])) ∧ i7_2 < h.nx ∧ OwnS h v7 1 (List.map eL_I b_7_3) ∧ NotId v5_1 i7 ∧ NotId v5_1 i7_1 ∧ NotId v5_1 i7_2 ∧ (∀ j, ¬NotId v5_1 j → NotId v7 j) ∧ ¬i7 = i7_1 ∧ ¬i7 = i7_2 ∧ NotId v7 i7 ∧ ¬i7_1 = i7_2 ∧ NotId v7 i7_1 ∧ NotId v7 i7_2) ?_ ?_
      · exact ⟨v5, (nxs (nxs h.nx)), h.nx, (nxs h.nx), (.v (.slice none 0 0)), s1, s2, s5, (by first | (simp only [go_sem, List.length_append, List.map_append]; done) | rfl), (by first | (simp only [go_sem, List.length_append, List.map_append]; done) | rfl), s18, s19, (by first | (simp only [go_sem, List.length_append, List.map_append]; done) | rfl), (by first | (simp only [go_sem, List.length_append, List.map_append]; done) | rfl), (own_later ow_o5 (by intro j hj hl; first | rfl | simp only [go_sem, hl]) (by first | omega | exact Nat.le_refl _ | (simp only [go_sem, nxs] <;> omega))), (by simp only [go_sem, List.length_append, List.map_append]), (by simp only [go_sem]), (by simp only [go_sem, List.length_append, List.map_append]), (by simp only [go_sem]), (by simp only [go_sem, List.length_append, List.map_append]), (by simp only [go_sem]), own_nil', (by first | exact notid_nil | exact notid_rs (by first | assumption | omega | (simp only [nxs] <;> omega)) | assumption | exact own_notid (by assumption) (by first | assumption | omega | (simp only [nxs] <;> omega))), (by first | exact notid_nil | exact notid_rs (by first | assumption | omega | (simp only [nxs] <;> omega)) | assumption | exact own_notid (by assumption) (by first | assumption | omega | (simp only [nxs] <;> omega))), (by first | exact notid_nil | exact notid_rs (by first | assumption | omega | (simp only [nxs] <;> omega)) | assumption | exact own_notid (by assumption) (by first | assumption | omega | (simp only [nxs] <;> omega))), (by first | exact dis_nil_l | exact dis_nil_r | assumption | (refine dis_rs_l ?_; first | assumption | exact own_notid (by assumption) (by first | assumption | omega | (simp only [nxs] <;> omega))) | (refine nd_rs ?_; first | assumption | exact own_notid (by assumption) (by first | assumption | omega | (simp only [nxs] <;> omega)))), (by first | first | assumption | omega | (simp only [nxs] <;> omega)), (by first | first | assumption | omega | (simp only [nxs] <;> omega)), (by first | exact notid_nil | exact notid_rs (by first | assumption | omega | (simp only [nxs] <;> omega)) | assumption | exact own_notid (by assumption) (by first | assumption | omega | (simp only [nxs] <;> omega))), (by first | first | assumption | omega | (simp only [nxs] <;> omega)), (by first | exact notid_nil | exact notid_rs (by first | assumption | omega | (simp only [nxs] <;> omega)) | assumption | exact own_notid (by assumption) (by first | assumption | omega | (simp only [nxs] <;> omega))), (by first | exact notid_nil | exact notid_rs (by first | assumption | omega | (simp only [nxs] <;> omega)) | assumption | exact own_notid (by assumption) (by first | assumption | omega | (simp only [nxs] <;> omega)))⟩
      · rintro ⟨b_7_0, b_7_3, x_28⟩ o t h ⟨v5_1, i7, i7_1, i7_2, v7, s1, s2, s5, s6, s7, s18, s19, s27, s28, ow_o5, ob_o7, lt_o7, ob_o7x, lt_o7x, ob_o7xx, lt_o7xx, ow_o7xxx, ni_o5_o7, ni_o5_o7x, ni_o5_o7xx, di_o5_o7xxx, ne_o7_o7x, ne_o7_o7xx, ni_o7_o7xxx, ne_o7x_o7xx, ni_o7x_o7xxx, ni_o7xx_o7xxx⟩ hm2 hb47
        simp only [halls_bounds_L25] at hm2
        rw [x_halls_bounds_L25]
        refine cw_reg_seq fun K hK => ?_
        simp only [go_sem, s27, s28, lt_o7, lt_o7x, lt_o7xx, istr_of v5, istr_of v5_1, istr_of v7]
        refine hK _ _ ?_
        clear hK K
        refine cw_seq_k fun K48 hK48 => ?_
        simp only [go_sem]
        refine ibr_intro (fun hc49 => ?_) (fun hc49 => ?_)
        · rw [if_t hc49] at hm2
          simp only [cw_skip, qblock_normal, qseq_normal]
          refine hK48 _ _ ?_
          refine cw_seq_k fun K50 hK50 => ?_
          have J51 : ∀ (b_7_0_1 : List Int) (b_7_3_1 : List (List Int)) (v5_2 : AV) (i7_3 : Nat) (i7_4 : Nat) (t : Slots) (h : Heap), t 1 = .fs 1 (List.map eL_I open_) → t 2 = .fp [.fs 5 (List.map eComb h_.Combs), .fs 3 (List.map eTrain h_.Trains), .fs 3 (List.map eShift h_.Shifts), I h_.Until] 0 → t 5 = v5_2 → t 6 = I x_19 → t 7 = .rp i7 0 0 → t 18 = I (List.length h_.Combs : Int) → t 19 = I x_19 → t 27 = I h_.Until → t 28 = I x_28 → OwnS h v5_2 1 (List.map eP_halls_bound all_5) → h.ob i7 = some (4, [[.rs i7_3 0 (List.length b_7_0_1), .rs i7_2 0 (List.length ([0])), .v (.slice none 0 0), .rs i7_4 0 (List.length b_7_3_1)]]) → i7 < h.nx → h.ob i7_3 = some (1, List.map eI b_7_0_1) → i7_3 < h.nx → h.ob i7_2 = some (1, List.map eI ([0])) → i7_2 < h.nx → h.ob i7_4 = some (1, List.map eL_I b_7_3_1) → i7_4 < h.nx → NotId v5_2 i7 → NotId v5_2 i7_3 → NotId v5_2 i7_2 → NotId v5_2 i7_4 → ¬i7 = i7_3 → ¬i7 = i7_2 → ¬i7 = i7_4 → ¬i7_3 = i7_2 → ¬i7_3 = i7_4 → ¬i7_2 = i7_4 → halls_bounds_j51 x_28 b_7_0_1 b_7_3_1 = some o → K50 t h := by
            try clear s1 s2 s5 s6 s7 s18 s19 s27 s28 ow_o5 ob_o7 lt_o7 ob_o7x lt_o7x ob_o7xx lt_o7xx ow_o7xxx ni_o5_o7 ni_o5_o7x ni_o5_o7xx di_o5_o7xxx ne_o7_o7x ne_o7_o7xx ni_o7_o7xxx ne_o7x_o7xx ni_o7x_o7xxx ni_o7xx_o7xxx
            intro b_7_0_1 b_7_3_1 v5_2 i7_3 i7_4 t h s1 s2 s5 s6 s7 s18 s19 s27 s28 ow_o5 ob_o7 lt_o7 ob_o7x lt_o7x ob_o7xx lt_o7xx ob_o7xxx lt_o7xxx ni_o5_o7 ni_o5_o7x ni_o5_o7xx ni_o5_o7xxx ne_o7_o7x ne_o7_o7xx ne_o7_o7xxx ne_o7x_o7xx ne_o7x_o7xxx ne_o7xx_o7xxx hm2
            refine hK50 _ _ ?_
            unfold halls_bounds_j51 at hm2
            refine cw_reg_k fun K hK => ?_
            simp only [go_sem, s28, lt_o7, lt_o7x, lt_o7xx, lt_o7xxx, istr_of v5, istr_of v5_1, istr_of v7, istr_of v5_2]
            refine hK _ _ ?_
            clear hK K
            simp only [qblock_normal, qseq_normal]
            obtain rfl := Option.some.inj hm2
            refine ⟨_, rfl, ?_⟩
            exact ⟨v5_2, i7, i7_3, i7_2, (.rs i7_4 0 (List.length b_7_3_1)), s1, s2, s5, s6, s7, s18, s19, s27, (by first | (simp only [go_sem, s28, List.length_append, List.map_append]; done) | rfl), ow_o5, ob_o7, lt_o7, ob_o7x, lt_o7x, ob_o7xx, lt_o7xx, (own_rs (by simp only [go_sem, ob_o7xxx, lt_o7xxx, List.length_append, List.map_append]) (by first | rfl | simp only [go_sem, List.length_append, List.map_append]) (by simp only [go_sem, lt_o7xxx])), ni_o5_o7, ni_o5_o7x, ni_o5_o7xx, (by first | exact dis_nil_l | exact dis_nil_r | assumption | (refine dis_rs_l ?_; first | assumption | exact own_notid (by assumption) (by first | assumption | omega | (simp only [nxs] <;> omega))) | (refine nd_rs ?_; first | assumption | exact own_notid (by assumption) (by first | assumption | omega | (simp only [nxs] <;> omega)))), ne_o7_o7x, ne_o7_o7xx, (by first | exact notid_nil | exact notid_rs (by first | assumption | omega | (simp only [nxs] <;> omega)) | assumption | exact own_notid (by assumption) (by first | assumption | omega | (simp only [nxs] <;> omega))), ne_o7x_o7xx, (by first | exact notid_nil | exact notid_rs (by first | assumption | omega | (simp only [nxs] <;> omega)) | assumption | exact own_notid (by assumption) (by first | assumption | omega | (simp only [nxs] <;> omega))), (by first | exact notid_nil | exact notid_rs (by first | assumption | omega | (simp only [nxs] <;> omega)) | assumption | exact own_notid (by assumption) (by first | assumption | omega | (simp only [nxs] <;> omega)))⟩
          simp only [cw_block]
          refine cw_reg_seq fun K hK => ?_
          simp only [go_sem, s28, lt_o7, lt_o7x, lt_o7xx, istr_of v5, istr_of v5_1, istr_of v7]
          refine hK _ _ ?_
          clear hK K
          obtain ⟨l53, h_l53, hm2⟩ := bind_get hm2
          refine cw_reg_seq fun K hK => ?_
          simp only [go_sem, s2, lt_o7, lt_o7x, lt_o7xx, istr_of v5, istr_of v5_1, istr_of v7]
          refine imksl_ok (f := eI) (z := 0) rfl h_l53 ?_
          simp only [go_sem, s2, lt_o7, lt_o7x, lt_o7xx, istr_of v5, istr_of v5_1, istr_of v7]
          refine hK _ _ ?_
          clear hK K
          refine cw_assoc ?_
          refine cw_reg_seq fun K hK => ?_
          simp only [go_sem, lt_o7, lt_o7x, lt_o7xx, istr_of v5, istr_of v5_1, istr_of v7]
          refine hK _ _ ?_
          clear hK K
          refine cw_seq_k fun K54 hK54 => ?_
          have J55 : ∀ (row_9 : List Int) (v5_2 : AV) (i9 : Nat) (t : Slots) (h : Heap), t 1 = .fs 1 (List.map eL_I open_) → t 2 = .fp [.fs 5 (List.map eComb h_.Combs), .fs 3 (List.map eTrain h_.Trains), .fs 3 (List.map eShift h_.Shifts), I h_.Until] 0 → t 5 = v5_2 → t 6 = I x_19 → t 7 = .rp i7 0 0 → t 8 = I x_28 → t 9 = .rs i9 0 (List.length row_9) → t 18 = I (List.length h_.Combs : Int) → t 19 = I x_19 → t 27 = I h_.Until → t 28 = I x_28 → OwnS h v5_2 1 (List.map eP_halls_bound all_5) → h.ob i7 = some (4, [[.rs i7_1 0 (List.length b_7_0), .rs i7_2 0 (List.length ([0])), .v (.slice none 0 0), v7]]) → i7 < h.nx → h.ob i7_1 = some (1, List.map eI b_7_0) → i7_1 < h.nx → h.ob i7_2 = some (1, List.map eI ([0])) → i7_2 < h.nx → OwnS h v7 1 (List.map eL_I b_7_3) → h.ob i9 = some (1, List.map eI row_9) → i9 < h.nx → NotId v5_2 i7 → NotId v5_2 i7_1 → NotId v5_2 i7_2 → (∀ j, ¬NotId v5_2 j → NotId v7 j) → NotId v5_2 i9 → ¬i7 = i7_1 → ¬i7 = i7_2 → NotId v7 i7 → ¬i7 = i9 → ¬i7_1 = i7_2 → NotId v7 i7_1 → ¬i7_1 = i9 → NotId v7 i7_2 → ¬i7_2 = i9 → NotId v7 i9 → halls_bounds_j55 open_ x_19 b_7_0 b_7_3 x_28 row_9 = some o → K54 t h := by
            try clear s1 s2 s5 s6 s7 s18 s19 s27 s28 ow_o5 ob_o7 lt_o7 ob_o7x lt_o7x ob_o7xx lt_o7xx ow_o7xxx ni_o5_o7 ni_o5_o7x ni_o5_o7xx di_o5_o7xxx ne_o7_o7x ne_o7_o7xx ni_o7_o7xxx ne_o7x_o7xx ni_o7x_o7xxx ni_o7xx_o7xxx
            intro row_9 v5_2 i9 t h s1 s2 s5 s6 s7 s8 s9 s18 s19 s27 s28 ow_o5 ob_o7 lt_o7 ob_o7x lt_o7x ob_o7xx lt_o7xx ow_o7xxx ob_o9 lt_o9 ni_o5_o7 ni_o5_o7x ni_o5_o7xx di_o5_o7xxx ni_o5_o9 ne_o7_o7x ne_o7_o7xx ni_o7_o7xxx ne_o7_o9 ne_o7x_o7xx ni_o7x_o7xxx ne_o7x_o9 ni_o7xx_o7xxx ne_o7xx_o9 ni_o7xxx_o9 hm2
            refine hK54 _ _ ?_
            unfold halls_bounds_j55 at hm2
            refine cw_assoc ?_
            refine cw_ghost_own (s := 9) (v := .rs i9 0 (List.length row_9)) (f := eI) (l := row_9) (by simp only [go_sem, s9, own_late ow_o5, ob_o7, lt_o7, ob_o7x, lt_o7x, ob_o7xx, lt_o7xx, own_late ow_o7xxx, ob_o9, lt_o9, ni_o5_o7, ni_o5_o7x, ni_o5_o7xx, ni_o5_o9, ne_o7_o7x, nsym ne_o7_o7x, ne_o7_o7xx, nsym ne_o7_o7xx, ni_o7_o7xxx, ne_o7_o9, nsym ne_o7_o9, ne_o7x_o7xx, nsym ne_o7x_o7xx, ni_o7x_o7xxx, ne_o7x_o9, nsym ne_o7x_o9, ni_o7xx_o7xxx, ne_o7xx_o9, nsym ne_o7xx_o9, ni_o7xxx_o9, List.length_append, List.map_append]) (own_rs (by simp only [go_sem, s9, own_late ow_o5, ob_o7, lt_o7, ob_o7x, lt_o7x, ob_o7xx, lt_o7xx, own_late ow_o7xxx, ob_o9, lt_o9, ni_o5_o7, ni_o5_o7x, ni_o5_o7xx, ni_o5_o9, ne_o7_o7x, nsym ne_o7_o7x, ne_o7_o7xx, nsym ne_o7_o7xx, ni_o7_o7xxx, ne_o7_o9, nsym ne_o7_o9, ne_o7x_o7xx, nsym ne_o7x_o7xx, ni_o7x_o7xxx, ne_o7x_o9, nsym ne_o7x_o9, ni_o7xx_o7xxx, ne_o7xx_o9, nsym ne_o7xx_o9, ni_o7xxx_o9, List.length_append, List.map_append]) (by simp only [go_sem, s9, own_late ow_o5, ob_o7, lt_o7, ob_o7x, lt_o7x, ob_o7xx, lt_o7xx, own_late ow_o7xxx, ob_o9, lt_o9, ni_o5_o7, ni_o5_o7x, ni_o5_o7xx, ni_o5_o9, ne_o7_o7x, nsym ne_o7_o7x, ne_o7_o7xx, nsym ne_o7_o7xx, ni_o7_o7xxx, ne_o7_o9, nsym ne_o7_o9, ne_o7x_o7xx, nsym ne_o7x_o7xx, ni_o7x_o7xxx, ne_o7x_o9, nsym ne_o7x_o9, ni_o7xx_o7xxx, ne_o7xx_o9, nsym ne_o7xx_o9, ni_o7xxx_o9, List.length_append, List.map_append]) (by simp only [go_sem, lt_o7, lt_o7x, lt_o7xx, lt_o9])) fz_eI ln_eI ?_
            simp only [frzH_nil, frzH_rs]
            obtain ⟨l57, h_l57, hm2⟩ := bind_get hm2
            refine cw_reg_seq fun K hK => ?_
            simp only [go_sem, s7, s9, ob_o7, lt_o7, ob_o7x, lt_o7x, ob_o7xx, lt_o7xx, lt_o9, ni_o5_o7, ni_o5_o7x, ni_o5_o7xx, ne_o7_o7x, nsym ne_o7_o7x, ne_o7_o7xx, nsym ne_o7_o7xx, ni_o7_o7xxx, ne_o7_o9, nsym ne_o7_o9, ne_o7x_o7xx, nsym ne_o7x_o7xx, ni_o7x_o7xxx, ne_o7x_o9, nsym ne_o7x_o9, ni_o7xx_o7xxx, ne_o7xx_o9, nsym ne_o7xx_o9, ni_o7xxx_o9, istr_of v5, istr_of v5_1, istr_of v7, istr_of v5_2]
            refine iapp_own (f := eL_I) (l := b_7_3) (m := ([row_9])) ?_ ?_ ?_ ?_ h_l57 ?_
            · exact (own_later ow_o7xxx (by intro j hj hl; first | rfl | simp only [go_sem, hl, di_sym di_o5_o7xxx j hj, own_ne hj ni_o7_o7xxx, own_ne hj ni_o7x_o7xxx, own_ne hj ni_o7xx_o7xxx, own_ne hj ni_o7xxx_o9]) (by first | omega | exact Nat.le_refl _ | (simp only [go_sem, nxs] <;> omega)))
            · exact (ownx_rs (by simp only [go_sem, own_late ow_o5, ob_o7, lt_o7, ob_o7x, lt_o7x, ob_o7xx, lt_o7xx, own_late ow_o7xxx, ob_o9, lt_o9, ni_o5_o7, ni_o5_o7x, ni_o5_o7xx, ni_o5_o9, ne_o7_o7x, nsym ne_o7_o7x, ne_o7_o7xx, nsym ne_o7_o7xx, ni_o7_o7xxx, ne_o7_o9, nsym ne_o7_o9, ne_o7x_o7xx, nsym ne_o7x_o7xx, ni_o7x_o7xxx, ne_o7x_o9, nsym ne_o7x_o9, ni_o7xx_o7xxx, ne_o7xx_o9, nsym ne_o7xx_o9, ni_o7xxx_o9, List.length_append, List.map_append]) (by simp only [go_sem, own_late ow_o5, ob_o7, lt_o7, ob_o7x, lt_o7x, ob_o7xx, lt_o7xx, own_late ow_o7xxx, ob_o9, lt_o9, ni_o5_o7, ni_o5_o7x, ni_o5_o7xx, ni_o5_o9, ne_o7_o7x, nsym ne_o7_o7x, ne_o7_o7xx, nsym ne_o7_o7xx, ni_o7_o7xxx, ne_o7_o9, nsym ne_o7_o9, ne_o7x_o7xx, nsym ne_o7x_o7xx, ni_o7x_o7xxx, ne_o7x_o9, nsym ne_o7x_o9, ni_o7xx_o7xxx, ne_o7xx_o9, nsym ne_o7xx_o9, ni_o7xxx_o9, List.length_append, List.map_append]))
            · exact (nd_rs (by first | exact notid_nil | exact notid_rs (by first | omega | (simp only [nxs] <;> omega)) | assumption | exact own_notid (by assumption) (by first | omega | (simp only [go_sem, nxs] <;> omega))))
            · exact (fun _ => by simp)
            simp only [go_sem, s7, s9, ob_o7, lt_o7, ob_o7x, lt_o7x, ob_o7xx, lt_o7xx, lt_o9, ni_o5_o7, ni_o5_o7x, ni_o5_o7xx, ne_o7_o7x, nsym ne_o7_o7x, ne_o7_o7xx, nsym ne_o7_o7xx, ni_o7_o7xxx, ne_o7_o9, nsym ne_o7_o9, ne_o7x_o7xx, nsym ne_o7x_o7xx, ni_o7x_o7xxx, ne_o7x_o9, nsym ne_o7x_o9, ni_o7xx_o7xxx, ne_o7xx_o9, nsym ne_o7xx_o9, ni_o7xxx_o9, istr_of v5, istr_of v5_1, istr_of v7, istr_of v5_2]
            refine hK _ _ ?_
            clear hK K
            obtain ⟨x62, h_x62, hm2⟩ := bind_get hm2
            have h_x620 := get_nn h_x62
            have h_x621 := get_lt h_x62
            obtain ⟨x63, h_x63, hm2⟩ := bind_get hm2
            have h_x630 := get_nn h_x63
            have h_x631 := get_lt h_x63
            obtain ⟨x64, h_x64, hm2⟩ := bind_get hm2
            have h_x640 := get_nn h_x64
            have h_x641 := get_lt h_x64
            obtain ⟨l65, h_l65, hm2⟩ := bind_get hm2
            refine cw_reg_k fun K hK => ?_
            simp only [go_sem, s1, s6, s7, s8, ob_o7, lt_o7, ob_o7x, lt_o7x, ob_o7xx, lt_o7xx, lt_o9, ni_o5_o7, ni_o5_o7x, ni_o5_o7xx, ne_o7_o7x, nsym ne_o7_o7x, ne_o7_o7xx, nsym ne_o7_o7xx, ni_o7_o7xxx, ne_o7_o9, nsym ne_o7_o9, ne_o7x_o7xx, nsym ne_o7x_o7xx, ni_o7x_o7xxx, ne_o7x_o9, nsym ne_o7x_o9, ni_o7xx_o7xxx, ne_o7xx_o9, nsym ne_o7xx_o9, ielem_get h_x62, irow_get h_x62, h_x620, h_x621, ielem_get h_x63, irow_get h_x63, h_x630, h_x631, ielem_get h_x64, irow_get h_x64, h_x640, h_x641, istr_of v5, istr_of v5_1, istr_of v7, istr_of v5_2]
            refine iapp_own (f := eI) (l := b_7_0) (m := ([wr (x62 + x64)])) ?_ ?_ ?_ ?_ h_l65 ?_
            · exact (own_rs (by simp only [go_sem, own_late ow_o5, ob_o7, lt_o7, ob_o7x, lt_o7x, ob_o7xx, lt_o7xx, own_late ow_o7xxx, ob_o9, lt_o9, ni_o5_o7, ni_o5_o7x, ni_o5_o7xx, ni_o5_o9, ne_o7_o7x, nsym ne_o7_o7x, ne_o7_o7xx, nsym ne_o7_o7xx, ni_o7_o7xxx, ne_o7_o9, nsym ne_o7_o9, ne_o7x_o7xx, nsym ne_o7x_o7xx, ni_o7x_o7xxx, ne_o7x_o9, nsym ne_o7x_o9, ni_o7xx_o7xxx, ne_o7xx_o9, nsym ne_o7xx_o9, ni_o7xxx_o9, List.length_append, List.map_append]) (by simp only [go_sem, own_late ow_o5, ob_o7, lt_o7, ob_o7x, lt_o7x, ob_o7xx, lt_o7xx, own_late ow_o7xxx, ob_o9, lt_o9, ni_o5_o7, ni_o5_o7x, ni_o5_o7xx, ni_o5_o9, ne_o7_o7x, nsym ne_o7_o7x, ne_o7_o7xx, nsym ne_o7_o7xx, ni_o7_o7xxx, ne_o7_o9, nsym ne_o7_o9, ne_o7x_o7xx, nsym ne_o7x_o7xx, ni_o7x_o7xxx, ne_o7x_o9, nsym ne_o7x_o9, ni_o7xx_o7xxx, ne_o7xx_o9, nsym ne_o7xx_o9, ni_o7xxx_o9, List.length_append, List.map_append]) (by simp only [go_sem, lt_o7, lt_o7x, lt_o7xx, lt_o9]))
            · exact (ownx_rs (by simp only [go_sem, own_late ow_o5, ob_o7, lt_o7, ob_o7x, lt_o7x, ob_o7xx, lt_o7xx, own_late ow_o7xxx, ob_o9, lt_o9, ni_o5_o7, ni_o5_o7x, ni_o5_o7xx, ni_o5_o9, ne_o7_o7x, nsym ne_o7_o7x, ne_o7_o7xx, nsym ne_o7_o7xx, ni_o7_o7xxx, ne_o7_o9, nsym ne_o7_o9, ne_o7x_o7xx, nsym ne_o7x_o7xx, ni_o7x_o7xxx, ne_o7x_o9, nsym ne_o7x_o9, ni_o7xx_o7xxx, ne_o7xx_o9, nsym ne_o7xx_o9, ni_o7xxx_o9, List.length_append, List.map_append]) (by simp only [go_sem, own_late ow_o5, ob_o7, lt_o7, ob_o7x, lt_o7x, ob_o7xx, lt_o7xx, own_late ow_o7xxx, ob_o9, lt_o9, ni_o5_o7, ni_o5_o7x, ni_o5_o7xx, ni_o5_o9, ne_o7_o7x, nsym ne_o7_o7x, ne_o7_o7xx, nsym ne_o7_o7xx, ni_o7_o7xxx, ne_o7_o9, nsym ne_o7_o9, ne_o7x_o7xx, nsym ne_o7x_o7xx, ni_o7x_o7xxx, ne_o7x_o9, nsym ne_o7x_o9, ni_o7xx_o7xxx, ne_o7xx_o9, nsym ne_o7xx_o9, ni_o7xxx_o9, List.length_append, List.map_append]))
            · exact (nd_rs (by first | exact notid_nil | exact notid_rs (by first | omega | (simp only [nxs] <;> omega)) | assumption | exact own_notid (by assumption) (by first | omega | (simp only [go_sem, nxs] <;> omega))))
            · exact (fun _ => by simp)
            simp only [go_sem, s1, s6, s7, s8, ob_o7, lt_o7, ob_o7x, lt_o7x, ob_o7xx, lt_o7xx, lt_o9, ni_o5_o7, ni_o5_o7x, ni_o5_o7xx, ne_o7_o7x, nsym ne_o7_o7x, ne_o7_o7xx, nsym ne_o7_o7xx, ni_o7_o7xxx, ne_o7_o9, nsym ne_o7_o9, ne_o7x_o7xx, nsym ne_o7x_o7xx, ni_o7x_o7xxx, ne_o7x_o9, nsym ne_o7x_o9, ni_o7xx_o7xxx, ne_o7xx_o9, nsym ne_o7xx_o9, ielem_get h_x62, irow_get h_x62, h_x620, h_x621, ielem_get h_x63, irow_get h_x63, h_x630, h_x631, ielem_get h_x64, irow_get h_x64, h_x640, h_x641, istr_of v5, istr_of v5_1, istr_of v7, istr_of v5_2]
            refine hK _ _ ?_
            clear hK K
            simp only [qblock_normal, qseq_normal]
            exact J51 l65 l57 v5_2 (nxs (nxs (nxs h.nx))) (nxs h.nx) _ _ s1 s2 s5 s6 s7 s18 s19 s27 s28 (own_later ow_o5 (by intro j hj hl; first | rfl | simp only [go_sem, hl, lt_o7, lt_o7x, lt_o9, own_ne hj ni_o5_o7, own_ne hj ni_o5_o7x, di_o5_o7xxx j hj, own_ne hj ni_o5_o9]) (by first | omega | exact Nat.le_refl _ | (simp only [go_sem, nxs] <;> omega))) (by simp only [go_sem, ob_o7, lt_o7, lt_o7x, own_late ow_o7xxx, lt_o9, ne_o7_o7x, nsym ne_o7_o7x, ni_o7_o7xxx, ne_o7_o9, nsym ne_o7_o9, List.length_append, List.map_append]) (by simp only [go_sem, lt_o7]) (by simp only [go_sem, lt_o7, lt_o7x, own_late ow_o7xxx, lt_o9, List.length_append, List.map_append]) (by simp only [go_sem]) (by simp only [go_sem, lt_o7, lt_o7x, ob_o7xx, lt_o7xx, own_late ow_o7xxx, lt_o9, ne_o7_o7xx, nsym ne_o7_o7xx, ne_o7x_o7xx, nsym ne_o7x_o7xx, ni_o7xx_o7xxx, ne_o7xx_o9, nsym ne_o7xx_o9, List.length_append, List.map_append]) (by simp only [go_sem, lt_o7xx]) (by simp only [go_sem, lt_o7, lt_o7x, own_late ow_o7xxx, lt_o9, List.length_append, List.map_append]) (by simp only [go_sem]) ni_o5_o7 (by first | exact notid_nil | exact notid_rs (by first | assumption | omega | (simp only [nxs] <;> omega)) | assumption | exact own_notid (by assumption) (by first | assumption | omega | (simp only [nxs] <;> omega))) ni_o5_o7xx (by first | exact notid_nil | exact notid_rs (by first | assumption | omega | (simp only [nxs] <;> omega)) | assumption | exact own_notid (by assumption) (by first | assumption | omega | (simp only [nxs] <;> omega))) (by first | first | assumption | omega | (simp only [nxs] <;> omega)) ne_o7_o7xx (by first | first | assumption | omega | (simp only [nxs] <;> omega)) (by first | first | assumption | omega | (simp only [nxs] <;> omega)) (by first | first | assumption | omega | (simp only [nxs] <;> omega)) (by first | first | assumption | omega | (simp only [nxs] <;> omega)) hm2
          simp only [cw_block]
          obtain ⟨b66, hl66, hm2⟩ := bind_get hm2
          refine cw_loopM hl66 (fun | (row_9, t_10), t, h => ∃ v5_2 : AV, ∃ i9 : Nat, t 1 = .fs 1 (List.map eL_I open_) ∧ t 2 = .fp [.fs 5 (List.map eComb h_.Combs), .fs 3 (List.map eTrain h_.Trains), .fs 3 (List.map eShift h_.Shifts), I h_.Until] 0 ∧ t 5 = v5_2 ∧ t 6 = I x_19 ∧ t 7 = .rp i7 0 0 ∧ t 8 = I x_28 ∧ t 9 = .rs i9 0 (List.length row_9) ∧ t 10 = I t_10 ∧ t 18 = I (List.length h_.Combs : Int) ∧ t 19 = I x_19 ∧ t 27 = I h_.Until ∧ t 28 = I x_28 ∧ OwnS h v5_2 1 (List.map eP_halls_bound all_5) ∧ h.ob i7 = some (4, [[.rs i7_1 0 (List.length b_7_0), .rs i7_2 0 (List.length ([0])), .v (.slice none 0 0), v7]]) ∧ i7 < h.nx ∧ h.ob i7_1 = some (1, List.map eI b_7_0) ∧ i7_1 < h.nx ∧ h.ob i7_2 = some (1, List.map eI ([0])) ∧ i7_2 < h.nx ∧ OwnS h v7 1 (List.map eL_I b_7_3) ∧ h.ob i9 = some (1, List.map eI row_9) ∧ i9 < h.nx ∧ NotId v5_2 i7 ∧ NotId v5_2 i7_1 ∧ NotId v5_2 i7_2 ∧ (∀ j, ¬NotId v5_2 j → NotId v7 j) ∧ NotId v5_2 i9 ∧ ¬i7 = i7_1 ∧ ¬i7 = i7_2 ∧ NotId v7 i7 ∧ ¬i7 = i9 ∧ ¬i7_1 = i7_2 ∧ NotId v7 i7_1 ∧ ¬i7_1 = i9 ∧ NotId v7 i7_2 ∧ ¬i7_2 = i9 ∧ NotId v7 i9) ?_ ?_
          · exact ⟨v5_1, h.nx, s1, s2, s5, s6, s7, (by first | (simp only [go_sem, List.length_append, List.map_append]; done) | rfl), (by first | (simp only [go_sem, List.length_append, List.map_append]; done) | rfl), (by first | (simp only [go_sem, List.length_append, List.map_append]; done) | rfl), s18, s19, s27, s28, (own_later ow_o5 (by intro j hj hl; first | rfl | simp only [go_sem, hl]) (by first | omega | exact Nat.le_refl _ | (simp only [go_sem, nxs] <;> omega))), (by simp only [go_sem, ob_o7, lt_o7, List.length_append, List.map_append]), (by simp only [go_sem, lt_o7]), (by simp only [go_sem, ob_o7x, lt_o7x, List.length_append, List.map_append]), (by simp only [go_sem, lt_o7x]), (by simp only [go_sem, ob_o7xx, lt_o7xx, List.length_append, List.map_append]), (by simp only [go_sem, lt_o7xx]), (own_later ow_o7xxx (by intro j hj hl; first | rfl | simp only [go_sem, hl]) (by first | omega | exact Nat.le_refl _ | (simp only [go_sem, nxs] <;> omega))), (by simp only [go_sem, List.length_append, List.map_append]), (by simp only [go_sem]), ni_o5_o7, ni_o5_o7x, ni_o5_o7xx, di_o5_o7xxx, (by first | exact notid_nil | exact notid_rs (by first | assumption | omega | (simp only [nxs] <;> omega)) | assumption | exact own_notid (by assumption) (by first | assumption | omega | (simp only [nxs] <;> omega))), ne_o7_o7x, ne_o7_o7xx, ni_o7_o7xxx, (by first | first | assumption | omega | (simp only [nxs] <;> omega)), ne_o7x_o7xx, ni_o7x_o7xxx, (by first | first | assumption | omega | (simp only [nxs] <;> omega)), ni_o7xx_o7xxx, (by first | first | assumption | omega | (simp only [nxs] <;> omega)), (by first | exact notid_nil | exact notid_rs (by first | assumption | omega | (simp only [nxs] <;> omega)) | assumption | exact own_notid (by assumption) (by first | assumption | omega | (simp only [nxs] <;> omega)))⟩
          · try clear s1 s2 s5 s6 s7 s18 s19 s27 s28 ow_o5 ob_o7 lt_o7 ob_o7x lt_o7x ob_o7xx lt_o7xx ow_o7xxx ni_o5_o7 ni_o5_o7x ni_o5_o7xx di_o5_o7xxx ne_o7_o7x ne_o7_o7xx ni_o7_o7xxx ne_o7x_o7xx ni_o7x_o7xxx ni_o7xx_o7xxx
            rintro ⟨row_9, t_10⟩ o t h ⟨v5_2, i9, s1, s2, s5, s6, s7, s8, s9, s10, s18, s19, s27, s28, ow_o5, ob_o7, lt_o7, ob_o7x, lt_o7x, ob_o7xx, lt_o7xx, ow_o7xxx, ob_o9, lt_o9, ni_o5_o7, ni_o5_o7x, ni_o5_o7xx, di_o5_o7xxx, ni_o5_o9, ne_o7_o7x, ne_o7_o7xx, ni_o7_o7xxx, ne_o7_o9, ne_o7x_o7xx, ni_o7x_o7xxx, ne_o7x_o9, ni_o7xx_o7xxx, ne_o7xx_o9, ni_o7xxx_o9⟩ hm3 hb66
            simp only [halls_bounds_L21] at hm3
            rw [x_halls_bounds_L21]
            refine cw_assoc ?_
            refine cw_reg_seq fun K hK => ?_
            simp only [go_sem, s2, s10, lt_o7, lt_o7x, lt_o7xx, lt_o9, istr_of v5, istr_of v5_1, istr_of v7, istr_of v5_2]
            refine hK _ _ ?_
            clear hK K
            refine cw_seq_k fun K67 hK67 => ?_
            simp only [go_sem]
            refine ibr_intro (fun hc68 => ?_) (fun hc68 => ?_)
            · rw [if_t hc68] at hm3
              simp only [cw_skip, qblock_normal, qseq_normal]
              refine hK67 _ _ ?_
              refine cw_seq_k fun K69 hK69 => ?_
              have J70 : ∀ (row_9_1 : List Int) (v5_3 : AV) (t : Slots) (h : Heap), t 1 = .fs 1 (List.map eL_I open_) → t 2 = .fp [.fs 5 (List.map eComb h_.Combs), .fs 3 (List.map eTrain h_.Trains), .fs 3 (List.map eShift h_.Shifts), I h_.Until] 0 → t 5 = v5_3 → t 6 = I x_19 → t 7 = .rp i7 0 0 → t 8 = I x_28 → t 9 = .rs i9 0 (List.length row_9_1) → t 10 = I t_10 → t 18 = I (List.length h_.Combs : Int) → t 19 = I x_19 → t 27 = I h_.Until → t 28 = I x_28 → OwnS h v5_3 1 (List.map eP_halls_bound all_5) → h.ob i7 = some (4, [[.rs i7_1 0 (List.length b_7_0), .rs i7_2 0 (List.length ([0])), .v (.slice none 0 0), v7]]) → i7 < h.nx → h.ob i7_1 = some (1, List.map eI b_7_0) → i7_1 < h.nx → h.ob i7_2 = some (1, List.map eI ([0])) → i7_2 < h.nx → OwnS h v7 1 (List.map eL_I b_7_3) → h.ob i9 = some (1, List.map eI row_9_1) → i9 < h.nx → NotId v5_3 i7 → NotId v5_3 i7_1 → NotId v5_3 i7_2 → (∀ j, ¬NotId v5_3 j → NotId v7 j) → NotId v5_3 i9 → ¬i7 = i7_1 → ¬i7 = i7_2 → NotId v7 i7 → ¬i7 = i9 → ¬i7_1 = i7_2 → NotId v7 i7_1 → ¬i7_1 = i9 → NotId v7 i7_2 → ¬i7_2 = i9 → NotId v7 i9 → halls_bounds_j70 t_10 row_9_1 = some o → K69 t h := by
                try clear s1 s2 s5 s6 s7 s8 s9 s10 s18 s19 s27 s28 ow_o5 ob_o7 lt_o7 ob_o7x lt_o7x ob_o7xx lt_o7xx ow_o7xxx ob_o9 lt_o9 ni_o5_o7 ni_o5_o7x ni_o5_o7xx di_o5_o7xxx ni_o5_o9 ne_o7_o7x ne_o7_o7xx ni_o7_o7xxx ne_o7_o9 ne_o7x_o7xx ni_o7x_o7xxx ne_o7x_o9 ni_o7xx_o7xxx ne_o7xx_o9 ni_o7xxx_o9
                intro row_9_1 v5_3 t h s1 s2 s5 s6 s7 s8 s9 s10 s18 s19 s27 s28 ow_o5 ob_o7 lt_o7 ob_o7x lt_o7x ob_o7xx lt_o7xx ow_o7xxx ob_o9 lt_o9 ni_o5_o7 ni_o5_o7x ni_o5_o7xx di_o5_o7xxx ni_o5_o9 ne_o7_o7x ne_o7_o7xx ni_o7_o7xxx ne_o7_o9 ne_o7x_o7xx ni_o7x_o7xxx ne_o7x_o9 ni_o7xx_o7xxx ne_o7xx_o9 ni_o7xxx_o9 hm3
                refine hK69 _ _ ?_
                unfold halls_bounds_j70 at hm3
                refine cw_reg_k fun K hK => ?_
                simp only [go_sem, s10, lt_o7, lt_o7x, lt_o7xx, lt_o9, istr_of v5, istr_of v5_1, istr_of v7, istr_of v5_2, istr_of v5_3]
                refine hK _ _ ?_
                clear hK K
                simp only [qblock_normal, qseq_normal]
                obtain rfl := Option.some.inj hm3
                refine ⟨_, rfl, ?_⟩
                exact ⟨v5_3, i9, s1, s2, s5, s6, s7, s8, (by first | exact s9 | simp only [go_sem, s9, List.length_append, List.map_append]), (by first | (simp only [go_sem, s10, List.length_append, List.map_append]; done) | rfl), s18, s19, s27, s28, ow_o5, ob_o7, lt_o7, ob_o7x, lt_o7x, ob_o7xx, lt_o7xx, ow_o7xxx, ob_o9, lt_o9, ni_o5_o7, ni_o5_o7x, ni_o5_o7xx, di_o5_o7xxx, ni_o5_o9, ne_o7_o7x, ne_o7_o7xx, ni_o7_o7xxx, ne_o7_o9, ne_o7x_o7xx, ni_o7x_o7xxx, ne_o7x_o9, ni_o7xx_o7xxx, ne_o7xx_o9, ni_o7xxx_o9⟩
              simp only [cw_block]
              obtain ⟨y73, h_y73, hm3⟩ := bind_get hm3
              obtain ⟨x74, h_x74, hm3⟩ := bind_get hm3
              have h_x740 := get_nn h_x74
              have h_x741 := get_lt h_x74
              refine cw_reg_seq fun K hK => ?_
              simp only [go_sem, s2, s6, s8, s9, s10, ob_o9, lt_o9, lt_o7, lt_o7x, lt_o7xx, ni_o5_o9, ne_o7_o9, nsym ne_o7_o9, ne_o7x_o9, nsym ne_o7x_o9, ne_o7xx_o9, nsym ne_o7xx_o9, ni_o7xxx_o9, ielem_get h_x74, irow_get h_x74, h_x740, h_x741, istr_of v5, istr_of v5_1, istr_of v7, istr_of v5_2]
              refine icall_fn (k_halls_brought h_ x_19 x_28 t_10 _ h_y73) ?_
              simp only [go_sem, s2, s6, s8, s9, s10, ob_o9, lt_o9, lt_o7, lt_o7x, lt_o7xx, ni_o5_o9, ne_o7_o9, nsym ne_o7_o9, ne_o7x_o9, nsym ne_o7x_o9, ne_o7xx_o9, nsym ne_o7xx_o9, ni_o7xxx_o9, ielem_get h_x74, irow_get h_x74, h_x740, h_x741, istr_of v5, istr_of v5_1, istr_of v7, istr_of v5_2]
              refine hK _ _ ?_
              clear hK K
              obtain ⟨l76, h_l76, hm3⟩ := bind_get hm3
              refine cw_reg_seq fun K hK => ?_
              simp only [go_sem, s2, s6, lt_o7, lt_o7x, lt_o7xx, lt_o9, istr_of v5, istr_of v5_1, istr_of v7, istr_of v5_2]
              refine islc_fs (f := eComb) (l := h_.Combs) (lo := none) (hi := some x_19) h_l76 ?_
              simp only [go_sem, s2, s6, lt_o7, lt_o7x, lt_o7xx, lt_o9, istr_of v5, istr_of v5_1, istr_of v7, istr_of v5_2]
              refine hK _ _ ?_
              clear hK K
              simp only [cw_block]
              obtain ⟨b77, hl77, hm3⟩ := bind_get hm3
              refine cw_loopM hl77 (fun | (row_9_1, x_54), t, h => ∃ v5_3 : AV, t 1 = .fs 1 (List.map eL_I open_) ∧ t 2 = .fp [.fs 5 (List.map eComb h_.Combs), .fs 3 (List.map eTrain h_.Trains), .fs 3 (List.map eShift h_.Shifts), I h_.Until] 0 ∧ t 5 = v5_3 ∧ t 6 = I x_19 ∧ t 7 = .rp i7 0 0 ∧ t 8 = I x_28 ∧ t 9 = .rs i9 0 (List.length row_9_1) ∧ t 10 = I t_10 ∧ t 18 = I (List.length h_.Combs : Int) ∧ t 19 = I x_19 ∧ t 27 = I h_.Until ∧ t 28 = I x_28 ∧ t 52 = .fs 5 (List.map eComb l76) ∧ t 53 = I (List.length l76 : Int) ∧ t 54 = I x_54 ∧ OwnS h v5_3 1 (List.map eP_halls_bound all_5) ∧ h.ob i7 = some (4, [[.rs i7_1 0 (List.length b_7_0), .rs i7_2 0 (List.length ([0])), .v (.slice none 0 0), v7]]) ∧ i7 < h.nx ∧ h.ob i7_1 = some (1, List.map eI b_7_0) ∧ i7_1 < h.nx ∧ h.ob i7_2 = some (1, List.map eI ([0])) ∧ i7_2 < h.nx ∧ OwnS h v7 1 (List.map eL_I b_7_3) ∧ h.ob i9 = some (1, List.map eI row_9_1) ∧ i9 < h.nx ∧ NotId v5_3 i7 ∧ NotId v5_3 i7_1 ∧ NotId v5_3 i7_2 ∧ (∀ j, ¬NotId v5_3 j → NotId v7 j) ∧ NotId v5_3 i9 ∧ ¬i7 = i7_1 ∧ ¬i7 = i7_2 ∧ NotId v7 i7 ∧ ¬i7 = i9 ∧ ¬i7_1 = i7_2 ∧ NotId v7 i7_1 ∧ ¬i7_1 = i9 ∧ NotId v7 i7_2 ∧ ¬i7_2 = i9 ∧ NotId v7 i9) ?_ ?_
              · exact ⟨v5_2, s1, s2, s5, s6, s7, s8, (by first | exact s9 | simp only [go_sem, s9, List.length_append, List.map_append]), s10, s18, s19, s27, s28, (by first | (simp only [go_sem, List.length_append, List.map_append]; done) | rfl), (by first | (simp only [go_sem, List.length_append, List.map_append]; done) | rfl), (by first | (simp only [go_sem, List.length_append, List.map_append]; done) | rfl), (own_later ow_o5 (by intro j hj hl; first | rfl | simp only [go_sem, hl, lt_o9, own_ne hj ni_o5_o9]) (by first | omega | exact Nat.le_refl _ | (simp only [go_sem, nxs] <;> omega))), (by simp only [go_sem, ob_o7, lt_o7, lt_o9, ne_o7_o9, nsym ne_o7_o9, List.length_append, List.map_append]), (by simp only [go_sem, lt_o7]), (by simp only [go_sem, ob_o7x, lt_o7x, lt_o9, ne_o7x_o9, nsym ne_o7x_o9, List.length_append, List.map_append]), (by simp only [go_sem, lt_o7x]), (by simp only [go_sem, ob_o7xx, lt_o7xx, lt_o9, ne_o7xx_o9, nsym ne_o7xx_o9, List.length_append, List.map_append]), (by simp only [go_sem, lt_o7xx]), (own_later ow_o7xxx (by intro j hj hl; first | rfl | simp only [go_sem, hl, lt_o9, own_ne hj ni_o7xxx_o9]) (by first | omega | exact Nat.le_refl _ | (simp only [go_sem, nxs] <;> omega))), (by simp only [go_sem, ob_o9, lt_o9, List.length_append, List.map_append]), (by simp only [go_sem, lt_o9]), ni_o5_o7, ni_o5_o7x, ni_o5_o7xx, di_o5_o7xxx, ni_o5_o9, ne_o7_o7x, ne_o7_o7xx, ni_o7_o7xxx, ne_o7_o9, ne_o7x_o7xx, ni_o7x_o7xxx, ne_o7x_o9, ni_o7xx_o7xxx, ne_o7xx_o9, ni_o7xxx_o9⟩
              · try clear s1 s2 s5 s6 s7 s8 s9 s10 s18 s19 s27 s28 ow_o5 ob_o7 lt_o7 ob_o7x lt_o7x ob_o7xx lt_o7xx ow_o7xxx ob_o9 lt_o9 ni_o5_o7 ni_o5_o7x ni_o5_o7xx di_o5_o7xxx ni_o5_o9 ne_o7_o7x ne_o7_o7xx ni_o7_o7xxx ne_o7_o9 ne_o7x_o7xx ni_o7x_o7xxx ne_o7x_o9 ni_o7xx_o7xxx ne_o7xx_o9 ni_o7xxx_o9
                rintro ⟨row_9_1, x_54⟩ o t h ⟨v5_3, s1, s2, s5, s6, s7, s8, s9, s10, s18, s19, s27, s28, s52, s53, s54, ow_o5, ob_o7, lt_o7, ob_o7x, lt_o7x, ob_o7xx, lt_o7xx, ow_o7xxx, ob_o9, lt_o9, ni_o5_o7, ni_o5_o7x, ni_o5_o7xx, di_o5_o7xxx, ni_o5_o9, ne_o7_o7x, ne_o7_o7xx, ni_o7_o7xxx, ne_o7_o9, ne_o7x_o7xx, ni_o7x_o7xxx, ne_o7x_o9, ni_o7xx_o7xxx, ne_o7xx_o9, ni_o7xxx_o9⟩ hm4 hb77
                simp only [halls_bounds_L19] at hm4
                rw [x_halls_bounds_L19]
                refine cw_reg_seq fun K hK => ?_
                simp only [go_sem, s53, s54, lt_o7, lt_o7x, lt_o7xx, lt_o9, istr_of v5, istr_of v5_1, istr_of v7, istr_of v5_2, istr_of v5_3]
                refine hK _ _ ?_
                clear hK K
                refine cw_seq_k fun K78 hK78 => ?_
                simp only [go_sem]
                refine ibr_intro (fun hc79 => ?_) (fun hc79 => ?_)
                · rw [if_t hc79] at hm4
                  simp only [cw_skip, qblock_normal, qseq_normal]
                  refine hK78 _ _ ?_
                  refine cw_seq_k fun K80 hK80 => ?_
                  have J81 : ∀ (row_9_2 : List Int) (v5_4 : AV) (t : Slots) (h : Heap), t 1 = .fs 1 (List.map eL_I open_) → t 2 = .fp [.fs 5 (List.map eComb h_.Combs), .fs 3 (List.map eTrain h_.Trains), .fs 3 (List.map eShift h_.Shifts), I h_.Until] 0 → t 5 = v5_4 → t 6 = I x_19 → t 7 = .rp i7 0 0 → t 8 = I x_28 → t 9 = .rs i9 0 (List.length row_9_2) → t 10 = I t_10 → t 18 = I (List.length h_.Combs : Int) → t 19 = I x_19 → t 27 = I h_.Until → t 28 = I x_28 → t 52 = .fs 5 (List.map eComb l76) → t 53 = I (List.length l76 : Int) → t 54 = I x_54 → OwnS h v5_4 1 (List.map eP_halls_bound all_5) → h.ob i7 = some (4, [[.rs i7_1 0 (List.length b_7_0), .rs i7_2 0 (List.length ([0])), .v (.slice none 0 0), v7]]) → i7 < h.nx → h.ob i7_1 = some (1, List.map eI b_7_0) → i7_1 < h.nx → h.ob i7_2 = some (1, List.map eI ([0])) → i7_2 < h.nx → OwnS h v7 1 (List.map eL_I b_7_3) → h.ob i9 = some (1, List.map eI row_9_2) → i9 < h.nx → NotId v5_4 i7 → NotId v5_4 i7_1 → NotId v5_4 i7_2 → (∀ j, ¬NotId v5_4 j → NotId v7 j) → NotId v5_4 i9 → ¬i7 = i7_1 → ¬i7 = i7_2 → NotId v7 i7 → ¬i7 = i9 → ¬i7_1 = i7_2 → NotId v7 i7_1 → ¬i7_1 = i9 → NotId v7 i7_2 → ¬i7_2 = i9 → NotId v7 i9 → halls_bounds_j81 x_54 row_9_2 = some o → K80 t h := by
                    try clear s1 s2 s5 s6 s7 s8 s9 s10 s18 s19 s27 s28 s52 s53 s54 ow_o5 ob_o7 lt_o7 ob_o7x lt_o7x ob_o7xx lt_o7xx ow_o7xxx ob_o9 lt_o9 ni_o5_o7 ni_o5_o7x ni_o5_o7xx di_o5_o7xxx ni_o5_o9 ne_o7_o7x ne_o7_o7xx ni_o7_o7xxx ne_o7_o9 ne_o7x_o7xx ni_o7x_o7xxx ne_o7x_o9 ni_o7xx_o7xxx ne_o7xx_o9 ni_o7xxx_o9
                    intro row_9_2 v5_4 t h s1 s2 s5 s6 s7 s8 s9 s10 s18 s19 s27 s28 s52 s53 s54 ow_o5 ob_o7 lt_o7 ob_o7x lt_o7x ob_o7xx lt_o7xx ow_o7xxx ob_o9 lt_o9 ni_o5_o7 ni_o5_o7x ni_o5_o7xx di_o5_o7xxx ni_o5_o9 ne_o7_o7x ne_o7_o7xx ni_o7_o7xxx ne_o7_o9 ne_o7x_o7xx ni_o7x_o7xxx ne_o7x_o9 ni_o7xx_o7xxx ne_o7xx_o9 ni_o7xxx_o9 hm4
                    refine hK80 _ _ ?_
                    unfold halls_bounds_j81 at hm4
                    refine cw_reg_k fun K hK => ?_
                    simp only [go_sem, s54, lt_o7, lt_o7x, lt_o7xx, lt_o9, istr_of v5, istr_of v5_1, istr_of v7, istr_of v5_2, istr_of v5_3, istr_of v5_4]
                    refine hK _ _ ?_
                    clear hK K
                    simp only [qblock_normal, qseq_normal]
                    obtain rfl := Option.some.inj hm4
                    refine ⟨_, rfl, ?_⟩
                    exact ⟨v5_4, s1, s2, s5, s6, s7, s8, (by first | exact s9 | simp only [go_sem, s9, List.length_append, List.map_append]), s10, s18, s19, s27, s28, s52, s53, (by first | (simp only [go_sem, s54, List.length_append, List.map_append]; done) | rfl), ow_o5, ob_o7, lt_o7, ob_o7x, lt_o7x, ob_o7xx, lt_o7xx, ow_o7xxx, ob_o9, lt_o9, ni_o5_o7, ni_o5_o7x, ni_o5_o7xx, di_o5_o7xxx, ni_o5_o9, ne_o7_o7x, ne_o7_o7xx, ni_o7_o7xxx, ne_o7_o9, ne_o7x_o7xx, ni_o7x_o7xxx, ne_o7x_o9, ni_o7xx_o7xxx, ne_o7xx_o9, ni_o7xxx_o9⟩
                  simp only [cw_block]
                  obtain ⟨x83, h_x83, hm4⟩ := bind_get hm4
                  have h_x830 := get_nn h_x83
                  have h_x831 := get_lt h_x83
                  refine cw_reg_seq fun K hK => ?_
                  simp only [go_sem, s52, s54, lt_o7, lt_o7x, lt_o7xx, lt_o9, ielem_get h_x83, irow_get h_x83, h_x830, h_x831, istr_of v5, istr_of v5_1, istr_of v7, istr_of v5_2, istr_of v5_3]
                  refine hK _ _ ?_
                  clear hK K
                  refine cw_reg_seq fun K hK => ?_
                  simp only [go_sem, s6, lt_o7, lt_o7x, lt_o7xx, lt_o9, istr_of v5, istr_of v5_1, istr_of v7, istr_of v5_2, istr_of v5_3]
                  refine hK _ _ ?_
                  clear hK K
                  simp only [go_sem]
                  refine ibr_intro (fun hc84 => ?_) (fun hc84 => ?_)
                  · rw [if_t hc84] at hm4
                    obtain ⟨x89, h_x89, hm4⟩ := bind_get hm4
                    have h_x890 := get_nn h_x89
                    have h_x891 := get_lt h_x89
                    obtain ⟨x90, h_x90, hm4⟩ := bind_get hm4
                    have h_x900 := get_nn h_x90
                    have h_x901 := get_lt h_x90
                    obtain ⟨iq91, rfl, ob_o5, lt_o5⟩ := own_get ow_o5 h_x90
                    obtain ⟨y92, h_y92, hm4⟩ := bind_get hm4
                    refine cw_reg_k fun K hK => ?_
                    simp only [go_sem, s5, s8, s9, s10, ob_o5, lt_o5, ob_o9, lt_o9, lt_o7, lt_o7x, lt_o7xx, ni_o5_o7, ni_o5_o7x, ni_o5_o7xx, ni_o5_o9, ne_o7_o9, nsym ne_o7_o9, ne_o7x_o9, nsym ne_o7x_o9, ne_o7xx_o9, nsym ne_o7xx_o9, ni_o7xxx_o9, ielem_get h_x89, irow_get h_x89, h_x890, h_x891, ielem_get h_x90, irow_get h_x90, h_x900, h_x901, istr_of v5, istr_of v5_1, istr_of v7, istr_of v5_2]
                    refine icall_fn (k___halls_bound__passes x90 (wr (x_28 - x83.Walk.High)) (wr (t_10 - x83.Walk.Low)) _ h_y92) ?_
                    simp only [go_sem, s5, s8, s9, s10, ob_o5, lt_o5, ob_o9, lt_o9, lt_o7, lt_o7x, lt_o7xx, ni_o5_o7, ni_o5_o7x, ni_o5_o7xx, ni_o5_o9, ne_o7_o9, nsym ne_o7_o9, ne_o7x_o9, nsym ne_o7x_o9, ne_o7xx_o9, nsym ne_o7xx_o9, ni_o7xxx_o9, ielem_get h_x89, irow_get h_x89, h_x890, h_x891, ielem_get h_x90, irow_get h_x90, h_x900, h_x901, istr_of v5, istr_of v5_1, istr_of v7, istr_of v5_2]
                    refine hK _ _ ?_
                    clear hK K
                    simp only [qblock_normal, qseq_normal]
                    exact J81 (List.set row_9_1 (Int.toNat t_10) (wr (x89 + y92))) (.rs iq91 0 (List.length all_5)) _ _ s1 s2 (by first | (simp only [go_sem, s5, List.length_append, List.map_append]; done) | rfl) s6 s7 s8 (by first | exact s9 | simp only [go_sem, s9, List.length_append, List.map_append]) s10 s18 s19 s27 s28 s52 s53 s54 (own_rs (by simp only [go_sem, lt_o9, ni_o5_o9, notid_ne ni_o5_o9, nsym (notid_ne ni_o5_o9), ob_o5, lt_o5, List.length_append, List.map_append]) (by first | rfl | simp only [go_sem, List.length_append, List.map_append]) (by simp only [go_sem, lt_o5])) (by simp only [go_sem, ob_o7, lt_o7, lt_o9, ne_o7_o9, nsym ne_o7_o9, List.length_append, List.map_append]) (by simp only [go_sem, lt_o7]) (by simp only [go_sem, ob_o7x, lt_o7x, lt_o9, ne_o7x_o9, nsym ne_o7x_o9, List.length_append, List.map_append]) (by simp only [go_sem, lt_o7x]) (by simp only [go_sem, ob_o7xx, lt_o7xx, lt_o9, ne_o7xx_o9, nsym ne_o7xx_o9, List.length_append, List.map_append]) (by simp only [go_sem, lt_o7xx]) (own_later ow_o7xxx (by intro j hj hl; first | rfl | simp only [go_sem, hl, lt_o9, own_ne hj ni_o7xxx_o9]) (by first | omega | exact Nat.le_refl _ | (simp only [go_sem, nxs] <;> omega))) (by simp only [go_sem, ob_o9, lt_o9, List.length_append, List.map_append]) (by simp only [go_sem, lt_o9]) ni_o5_o7 ni_o5_o7x ni_o5_o7xx di_o5_o7xxx ni_o5_o9 ne_o7_o7x ne_o7_o7xx ni_o7_o7xxx ne_o7_o9 ne_o7x_o7xx ni_o7x_o7xxx ne_o7x_o9 ni_o7xx_o7xxx ne_o7xx_o9 ni_o7xxx_o9 hm4
                  · rw [if_f hc84] at hm4
                    simp only [cw_skip, qblock_normal, qseq_normal]
                    exact J81 row_9_1 v5_3 _ _ s1 s2 s5 s6 s7 s8 (by first | exact s9 | simp only [go_sem, s9, List.length_append, List.map_append]) s10 s18 s19 s27 s28 s52 s53 s54 (own_later ow_o5 (by intro j hj hl; first | rfl | simp only [go_sem, hl]) (by first | omega | exact Nat.le_refl _ | (simp only [go_sem, nxs] <;> omega))) (by simp only [go_sem, ob_o7, lt_o7, List.length_append, List.map_append]) (by simp only [go_sem, lt_o7]) (by simp only [go_sem, ob_o7x, lt_o7x, List.length_append, List.map_append]) (by simp only [go_sem, lt_o7x]) (by simp only [go_sem, ob_o7xx, lt_o7xx, List.length_append, List.map_append]) (by simp only [go_sem, lt_o7xx]) (own_later ow_o7xxx (by intro j hj hl; first | rfl | simp only [go_sem, hl]) (by first | omega | exact Nat.le_refl _ | (simp only [go_sem, nxs] <;> omega))) (by simp only [go_sem, ob_o9, lt_o9, List.length_append, List.map_append]) (by simp only [go_sem, lt_o9]) ni_o5_o7 ni_o5_o7x ni_o5_o7xx di_o5_o7xxx ni_o5_o9 ne_o7_o7x ne_o7_o7xx ni_o7_o7xxx ne_o7_o9 ne_o7x_o7xx ni_o7x_o7xxx ne_o7x_o9 ni_o7xx_o7xxx ne_o7xx_o9 ni_o7xxx_o9 hm4
                · rw [if_f hc79] at hm4
                  simp only [cw_exit, qseq_exit, qblock_same, qblock_ne, qblock_normal, qseq_normal, Nat.reduceEqDiff, not_false_eq_true]
                  obtain rfl := Option.some.inj hm4
                  obtain rfl := hb77 _ rfl
                  try dsimp only at hm3
                  exact J70 row_9_1 v5_3 _ _ s1 s2 s5 s6 s7 s8 (by first | exact s9 | simp only [go_sem, s9, List.length_append, List.map_append]) s10 s18 s19 s27 s28 ow_o5 ob_o7 lt_o7 ob_o7x lt_o7x ob_o7xx lt_o7xx ow_o7xxx ob_o9 lt_o9 ni_o5_o7 ni_o5_o7x ni_o5_o7xx di_o5_o7xxx ni_o5_o9 ne_o7_o7x ne_o7_o7xx ni_o7_o7xxx ne_o7_o9 ne_o7x_o7xx ni_o7x_o7xxx ne_o7x_o9 ni_o7xx_o7xxx ne_o7xx_o9 ni_o7xxx_o9 hm3
            · rw [if_f hc68] at hm3
              simp only [cw_exit, qseq_exit, qblock_same, qblock_ne, qblock_normal, qseq_normal, Nat.reduceEqDiff, not_false_eq_true]
              obtain rfl := Option.some.inj hm3
              obtain rfl := hb66 _ rfl
              try dsimp only at hm2
              exact J55 row_9 v5_2 i9 _ _ s1 s2 s5 s6 s7 s8 (by first | exact s9 | simp only [go_sem, s9, List.length_append, List.map_append]) s18 s19 s27 s28 ow_o5 ob_o7 lt_o7 ob_o7x lt_o7x ob_o7xx lt_o7xx ow_o7xxx ob_o9 lt_o9 ni_o5_o7 ni_o5_o7x ni_o5_o7xx di_o5_o7xxx ni_o5_o9 ne_o7_o7x ne_o7_o7xx ni_o7_o7xxx ne_o7_o9 ne_o7x_o7xx ni_o7x_o7xxx ne_o7x_o9 ni_o7xx_o7xxx ne_o7xx_o9 ni_o7xxx_o9 hm2
        · rw [if_f hc49] at hm2
          simp only [cw_exit, qseq_exit, qblock_same, qblock_ne, qblock_normal, qseq_normal, Nat.reduceEqDiff, not_false_eq_true]
          obtain rfl := Option.some.inj hm2
          obtain rfl := hb47 _ rfl
          try dsimp only at hm1
          exact J9 b_7_0 b_7_3 v5_1 i7 i7_1 i7_2 v7 _ _ s1 s2 s5 s6 s7 s18 s19 ow_o5 ob_o7 lt_o7 ob_o7x lt_o7x ob_o7xx lt_o7xx ow_o7xxx ni_o5_o7 ni_o5_o7x ni_o5_o7xx di_o5_o7xxx ne_o7_o7x ne_o7_o7xx ni_o7_o7xxx ne_o7x_o7xx ni_o7x_o7xxx ni_o7xx_o7xxx hm1
    · rw [if_f hc5] at hm1
      simp only [cw_exit, qseq_exit, qblock_same, qblock_ne, qblock_normal, qseq_normal, Nat.reduceEqDiff, not_false_eq_true]
      obtain rfl := Option.some.inj hm1
      obtain rfl := hb3 _ rfl
      try dsimp only at hm0
      exact J2 all_5 v5 _ _ s5 ow_o5 hm0

end Go.Nw.HM

namespace Go.Nw.HM
open Go.Nw.Halls
set_option linter.unusedSimpArgs false
set_option linter.unusedVariables false
set_option maxHeartbeats 4000000
variable {O : Orac}

theorem k_halls_brought (hf : Has O "newel/halls.brought" x_halls_brought) : C_halls_brought O := by
  intro h_ comb from_ to_ r hm0
  unfold halls_brought at hm0
  refine fn_cw hf rfl (fz_cons (.agg _ (fz_cons (frz_fs fun a _ => fz_eComb a) (fz_cons (frz_fs fun a _ => fz_eTrain a) (fz_cons (frz_fs fun a _ => fz_eShift a) (fz_cons (frz_v _) fz_nil))))) (fz_cons (frz_v _) (fz_cons (frz_v _) (fz_cons (frz_v _) fz_nil)))) (frz_v _) ?_
  refine cw_start (fun t h => t 0 = .agg [.fs 5 (List.map eComb h_.Combs), .fs 3 (List.map eTrain h_.Trains), .fs 3 (List.map eShift h_.Shifts), I h_.Until] ∧ t 1 = I comb ∧ t 2 = I from_ ∧ t 3 = I to_) ⟨rfl, rfl, rfl, rfl⟩ fun t h ⟨s0, s1, s2, s3⟩ => ?_
  simp only [x_halls_brought]
  refine cw_reg_seq fun K hK => ?_
  simp only [go_sem, s0]
  refine hK _ _ ?_
  clear hK K
  refine cw_assoc ?_
  refine cw_reg_seq fun K hK => ?_
  simp only [go_sem]
  refine hK _ _ ?_
  clear hK K
  refine cw_seq_k fun K1 hK1 => ?_
  have J2 : ∀ (sum_8 : Int) (t : Slots) (h : Heap), t 8 = I sum_8 → halls_brought_j2 sum_8 = some r → K1 t h := by
    intro sum_8 t h s8 hm0
    refine hK1 _ _ ?_
    unfold halls_brought_j2 at hm0
    refine cw_reg_seq fun K hK => ?_
    simp only [go_sem, s8]
    refine hK _ _ ?_
    clear hK K
    simp only [cw_ret, qseq_ret, qblock_ret, retQ_ret]
    obtain rfl := Option.some.inj hm0
    exact done_t (by simp only [go_sem, s8, List.length_append, List.map_append]) (frz_v _)
  simp only [cw_block]
  obtain ⟨b3, hl3, hm0⟩ := bind_get hm0
  refine cw_loopM hl3 (fun | (sum_8, x_16), t, h => t 1 = I comb ∧ t 2 = I from_ ∧ t 3 = I to_ ∧ t 8 = I sum_8 ∧ t 14 = .fs 3 (List.map eTrain h_.Trains) ∧ t 15 = I (List.length h_.Trains : Int) ∧ t 16 = I x_16) ?_ ?_
  · exact ⟨s1, s2, s3, (by first | (simp only [go_sem, List.length_append, List.map_append]; done) | rfl), (by first | (simp only [go_sem, List.length_append, List.map_append]; done) | rfl), (by first | (simp only [go_sem, List.length_append, List.map_append]; done) | rfl), (by first | (simp only [go_sem, List.length_append, List.map_append]; done) | rfl)⟩
  · rintro ⟨sum_8, x_16⟩ o t h ⟨s1, s2, s3, s8, s14, s15, s16⟩ hm1 hb3
    simp only [halls_brought_L13] at hm1
    rw [x_halls_brought_L13]
    refine cw_reg_seq fun K hK => ?_
    simp only [go_sem, s15, s16]
    refine hK _ _ ?_
    clear hK K
    refine cw_seq_k fun K4 hK4 => ?_
    simp only [go_sem]
    refine ibr_intro (fun hc5 => ?_) (fun hc5 => ?_)
    · rw [if_t hc5] at hm1
      simp only [cw_skip, qblock_normal, qseq_normal]
      refine hK4 _ _ ?_
      refine cw_seq_k fun K6 hK6 => ?_
      have J7 : ∀ (sum_8_1 : Int) (t : Slots) (h : Heap), t 1 = I comb → t 2 = I from_ → t 3 = I to_ → t 8 = I sum_8_1 → t 14 = .fs 3 (List.map eTrain h_.Trains) → t 15 = I (List.length h_.Trains : Int) → t 16 = I x_16 → halls_brought_j7 x_16 sum_8_1 = some o → K6 t h := by
        intro sum_8_1 t h s1 s2 s3 s8 s14 s15 s16 hm1
        refine hK6 _ _ ?_
        unfold halls_brought_j7 at hm1
        refine cw_reg_k fun K hK => ?_
        simp only [go_sem, s16]
        refine hK _ _ ?_
        clear hK K
        simp only [qblock_normal, qseq_normal]
        obtain rfl := Option.some.inj hm1
        refine ⟨_, rfl, ?_⟩
        exact ⟨s1, s2, s3, s8, s14, s15, (by first | (simp only [go_sem, s16, List.length_append, List.map_append]; done) | rfl)⟩
      simp only [cw_block]
      obtain ⟨x9, h_x9, hm1⟩ := bind_get hm1
      have h_x90 := get_nn h_x9
      have h_x91 := get_lt h_x9
      refine cw_reg_seq fun K hK => ?_
      simp only [go_sem, s14, s16, ielem_get h_x9, irow_get h_x9, h_x90, h_x91]
      refine hK _ _ ?_
      clear hK K
      refine cw_assoc ?_
      refine cw_reg_postK (fun t h => ∃ i10 : Nat, t 1 = I comb ∧ t 2 = I from_ ∧ t 3 = I to_ ∧ t 8 = I sum_8 ∧ t 10 = .rp i10 0 0 ∧ t 14 = .fs 3 (List.map eTrain h_.Trains) ∧ t 15 = I (List.length h_.Trains : Int) ∧ t 16 = I x_16 ∧ t 31 = B ((decide (x9.At.High < from_)) || (decide (to_ < x9.At.Low))) ∧ h.ob i10 = some (3, [[I x9.At.Low, I x9.At.High, .fs 3 (List.map eCrowd x9.Crowds)]]) ∧ i10 < h.nx) (fun K hK => ?_) ?_
      · simp only [go_sem, s2, s3]
        refine ibr_intro (fun hg10 => ?_) (fun hg10 => ?_)
        · simp only [go_sem, s2, s3, hg10]
          exact hK _ _ ⟨h.nx, s1, s2, s3, s8, (by first | (simp only [go_sem, hg10, List.length_append, List.map_append]; done) | rfl), s14, s15, s16, (by first | (simp only [go_sem, hg10, List.length_append, List.map_append]; done) | rfl), (by simp only [go_sem, hg10, List.length_append, List.map_append]), (by simp only [go_sem])⟩
        · simp only [go_sem, s2, s3, hg10]
          exact hK _ _ ⟨h.nx, s1, s2, s3, s8, (by first | (simp only [go_sem, hg10, List.length_append, List.map_append]; done) | rfl), s14, s15, s16, (by first | (simp only [go_sem, hg10, List.length_append, List.map_append]; done) | rfl), (by simp only [go_sem, hg10, List.length_append, List.map_append]), (by simp only [go_sem])⟩
      · rintro t h ⟨i10, s1, s2, s3, s8, s10, s14, s15, s16, s31, ob_o10, lt_o10⟩
        refine cw_seq_k fun K11 hK11 => ?_
        simp only [go_sem, s31]
        refine ibr_intro (fun hc12 => ?_) (fun hc12 => ?_)
        · rw [if_t hc12] at hm1
          simp only [cw_exit, qseq_exit, qblock_same, qblock_ne, qblock_normal, qseq_normal, Nat.reduceEqDiff, not_false_eq_true]
          exact J7 sum_8 _ _ s1 s2 s3 s8 s14 s15 s16 hm1
        · rw [if_f hc12] at hm1
          simp only [cw_skip, qblock_normal, qseq_normal]
          refine hK11 _ _ ?_
          refine cw_reg_seq fun K hK => ?_
          simp only [go_sem, s10, ob_o10, lt_o10]
          refine hK _ _ ?_
          clear hK K
          simp only [cw_block]
          obtain ⟨b13, hl13, hm1⟩ := bind_get hm1
          refine cw_loopM hl13 (fun | (sum_8_1, x_35), t, h => t 1 = I comb ∧ t 2 = I from_ ∧ t 3 = I to_ ∧ t 8 = I sum_8_1 ∧ t 14 = .fs 3 (List.map eTrain h_.Trains) ∧ t 15 = I (List.length h_.Trains : Int) ∧ t 16 = I x_16 ∧ t 33 = .fs 3 (List.map eCrowd x9.Crowds) ∧ t 34 = I (List.length x9.Crowds : Int) ∧ t 35 = I x_35) ?_ ?_
          · exact ⟨s1, s2, s3, s8, s14, s15, s16, (by first | (simp only [go_sem, List.length_append, List.map_append]; done) | rfl), (by first | (simp only [go_sem, List.length_append, List.map_append]; done) | rfl), (by first | (simp only [go_sem, List.length_append, List.map_append]; done) | rfl)⟩
          · try clear s1 s2 s3 s8 s10 s14 s15 s16 s31 ob_o10 lt_o10
            rintro ⟨sum_8_1, x_35⟩ o t h ⟨s1, s2, s3, s8, s14, s15, s16, s33, s34, s35⟩ hm2 hb13
            simp only [halls_brought_L11] at hm2
            rw [x_halls_brought_L11]
            refine cw_reg_seq fun K hK => ?_
            simp only [go_sem, s34, s35]
            refine hK _ _ ?_
            clear hK K
            refine cw_seq_k fun K14 hK14 => ?_
            simp only [go_sem]
            refine ibr_intro (fun hc15 => ?_) (fun hc15 => ?_)
            · rw [if_t hc15] at hm2
              simp only [cw_skip, qblock_normal, qseq_normal]
              refine hK14 _ _ ?_
              refine cw_seq_k fun K16 hK16 => ?_
              have J17 : ∀ (sum_8_2 : Int) (t : Slots) (h : Heap), t 1 = I comb → t 2 = I from_ → t 3 = I to_ → t 8 = I sum_8_2 → t 14 = .fs 3 (List.map eTrain h_.Trains) → t 15 = I (List.length h_.Trains : Int) → t 16 = I x_16 → t 33 = .fs 3 (List.map eCrowd x9.Crowds) → t 34 = I (List.length x9.Crowds : Int) → t 35 = I x_35 → halls_brought_j17 x_35 sum_8_2 = some o → K16 t h := by
                try clear s1 s2 s3 s8 s14 s15 s16 s33 s34 s35
                intro sum_8_2 t h s1 s2 s3 s8 s14 s15 s16 s33 s34 s35 hm2
                refine hK16 _ _ ?_
                unfold halls_brought_j17 at hm2
                refine cw_reg_k fun K hK => ?_
                simp only [go_sem, s35]
                refine hK _ _ ?_
                clear hK K
                simp only [qblock_normal, qseq_normal]
                obtain rfl := Option.some.inj hm2
                refine ⟨_, rfl, ?_⟩
                exact ⟨s1, s2, s3, s8, s14, s15, s16, s33, s34, (by first | (simp only [go_sem, s35, List.length_append, List.map_append]; done) | rfl)⟩
              simp only [cw_block]
              obtain ⟨x19, h_x19, hm2⟩ := bind_get hm2
              have h_x190 := get_nn h_x19
              have h_x191 := get_lt h_x19
              refine cw_reg_seq fun K hK => ?_
              simp only [go_sem, s33, s35, ielem_get h_x19, irow_get h_x19, h_x190, h_x191]
              refine hK _ _ ?_
              clear hK K
              refine cw_reg_seq fun K hK => ?_
              simp only [go_sem, s1]
              refine hK _ _ ?_
              clear hK K
              simp only [go_sem]
              refine ibr_intro (fun hc20 => ?_) (fun hc20 => ?_)
              · rw [if_t hc20] at hm2
                refine cw_reg_k fun K hK => ?_
                simp only [go_sem, s8]
                refine hK _ _ ?_
                clear hK K
                simp only [qblock_normal, qseq_normal]
                exact J17 (wr (sum_8_1 + x19.People.High)) _ _ s1 s2 s3 (by first | (simp only [go_sem, s8, List.length_append, List.map_append]; done) | rfl) s14 s15 s16 s33 s34 s35 hm2
              · rw [if_f hc20] at hm2
                simp only [cw_skip, qblock_normal, qseq_normal]
                exact J17 sum_8_1 _ _ s1 s2 s3 s8 s14 s15 s16 s33 s34 s35 hm2
            · rw [if_f hc15] at hm2
              simp only [cw_exit, qseq_exit, qblock_same, qblock_ne, qblock_normal, qseq_normal, Nat.reduceEqDiff, not_false_eq_true]
              obtain rfl := Option.some.inj hm2
              obtain rfl := hb13 _ rfl
              try dsimp only at hm1
              exact J7 sum_8_1 _ _ s1 s2 s3 s8 s14 s15 s16 hm1
    · rw [if_f hc5] at hm1
      simp only [cw_exit, qseq_exit, qblock_same, qblock_ne, qblock_normal, qseq_normal, Nat.reduceEqDiff, not_false_eq_true]
      obtain rfl := Option.some.inj hm1
      obtain rfl := hb3 _ rfl
      try dsimp only at hm0
      exact J2 sum_8 _ _ s8 hm0

end Go.Nw.HM

namespace Go.Nw.HM
open Go.Nw.Halls
set_option linter.unusedSimpArgs false
set_option linter.unusedVariables false
set_option maxHeartbeats 4000000
variable {O : Orac}

theorem k_halls_check (hf : Has O "newel/halls.check" x_halls_check) (k_halls_Check : C_halls_Check O) (k_slices_ContainsFunc___int_int_ : C_slices_ContainsFunc___int_int_ O) (k_halls_checkD1 : C_halls_checkD1 O) : C_halls_check O := by
  intro h_ comb ticks r hm0
  unfold halls_check at hm0
  refine fn_cw hf rfl (fz_cons (.agg _ (fz_cons (frz_fs fun a _ => fz_eComb a) (fz_cons (frz_fs fun a _ => fz_eTrain a) (fz_cons (frz_fs fun a _ => fz_eShift a) (fz_cons (frz_v _) fz_nil))))) (fz_cons (frz_v _) (fz_cons (frz_fs fun a _ => fz_eI a) fz_nil))) (frz_v _) ?_
  refine cw_start (fun t h => t 0 = .agg [.fs 5 (List.map eComb h_.Combs), .fs 3 (List.map eTrain h_.Trains), .fs 3 (List.map eShift h_.Shifts), I h_.Until] ∧ t 1 = I comb ∧ t 2 = .fs 1 (List.map eI ticks)) ⟨rfl, rfl, rfl⟩ fun t h ⟨s0, s1, s2⟩ => ?_
  simp only [x_halls_check]
  refine cw_reg_seq fun K hK => ?_
  simp only [go_sem, s0]
  refine hK _ _ ?_
  clear hK K
  refine cw_assoc ?_
  obtain ⟨y2, h_y2, hm0⟩ := bind_get hm0
  refine cw_reg_seq fun K hK => ?_
  simp only [go_sem]
  refine icall_fn (k_halls_Check h_ _ h_y2) ?_
  simp only [go_sem]
  refine hK _ _ ?_
  clear hK K
  refine cw_assoc ?_
  refine cw_reg_seq fun K hK => ?_
  simp only [go_sem]
  refine hK _ _ ?_
  clear hK K
  refine cw_seq_k fun K3 hK3 => ?_
  simp only [go_sem]
  refine ibr_intro (fun hc4 => ?_) (fun hc4 => ?_)
  · rw [if_t hc4] at hm0
    refine cw_reg_seq fun K hK => ?_
    simp only [go_sem]
    refine hK _ _ ?_
    clear hK K
    simp only [cw_ret, qseq_ret, qblock_ret, retQ_ret]
    obtain rfl := Option.some.inj hm0
    exact done_t (by simp only [go_sem, List.length_append, List.map_append]) (frz_v _)
  · rw [if_f hc4] at hm0
    simp only [cw_skip, qblock_normal, qseq_normal]
    refine hK3 _ _ ?_
    refine cw_assoc ?_
    obtain ⟨c10, h_c10, hm0⟩ := bind_get hm0
    refine cw_reg_postK (fun t h => t 26 = B c10) (fun K hK => ?_) ?_
    · simp only [go_sem, s1, s2]
      refine ibr_intro (fun hg11 => ?_) (fun hg11 => ?_)
      · simp only [hg11, Bool.not_true, Bool.not_false, eq_self, if_true, if_false, Bool.true_or, Bool.or_true, Bool.false_or, Bool.or_false, Bool.true_and, Bool.and_true, Bool.false_and, Bool.and_false, Bool.false_eq_true] at h_c10
        obtain rfl := Option.some.inj h_c10
        simp only [go_sem, s1, s2, hg11]
        exact hK _ _ (by first | (simp only [go_sem, hg11, List.length_append, List.map_append]; done) | rfl)
      · simp only [go_sem, s1, s2, hg11]
        refine ibr_intro (fun hg12 => ?_) (fun hg12 => ?_)
        · simp only [hg11, hg12, Bool.not_true, Bool.not_false, eq_self, if_true, if_false, Bool.true_or, Bool.or_true, Bool.false_or, Bool.or_false, Bool.true_and, Bool.and_true, Bool.false_and, Bool.and_false, Bool.false_eq_true] at h_c10
          obtain rfl := Option.some.inj h_c10
          simp only [go_sem, s1, s2, hg11, hg12]
          exact hK _ _ (by first | (simp only [go_sem, hg11, hg12, List.length_append, List.map_append]; done) | rfl)
        · simp only [hg11, hg12, Bool.not_true, Bool.not_false, eq_self, if_true, if_false, Bool.true_or, Bool.or_true, Bool.false_or, Bool.or_false, Bool.true_and, Bool.and_true, Bool.false_and, Bool.and_false, Bool.false_eq_true] at h_c10
          obtain ⟨y9, h_y9, h_c10⟩ := bind_get h_c10
          obtain rfl := Option.some.inj h_c10
          simp only [go_sem, s1, s2, hg11, hg12]
          refine icall_fn (k_slices_ContainsFunc___int_int_ ticks "newel/halls.check$1" [] [.fp [.fs 5 (List.map eComb h_.Combs), .fs 3 (List.map eTrain h_.Trains), .fs 3 (List.map eShift h_.Shifts), I h_.Until] 0] (fun z8 => some (halls_checkD1 z8 h_)) (.fn _ _ _ fz_nil (fz_cons (.fp _ _ (fz_cons (frz_fs fun a _ => fz_eComb a) (fz_cons (frz_fs fun a _ => fz_eTrain a) (fz_cons (frz_fs fun a _ => fz_eShift a) (fz_cons (frz_v _) fz_nil))))) fz_nil)) (fun z0 y hz => by cases hz; exact k_halls_checkD1 z0 h_) _ h_y9) ?_
          simp only [go_sem, s1, s2, hg11, hg12]
          exact hK _ _ (by first | (simp only [go_sem, hg11, hg12, List.length_append, List.map_append]; done) | rfl)
    · rintro t h s26
      refine cw_seq_k fun K13 hK13 => ?_
      simp only [go_sem, s26]
      refine ibr_intro (fun hc14 => ?_) (fun hc14 => ?_)
      · rw [if_t hc14] at hm0
        refine cw_reg_seq fun K hK => ?_
        simp only [go_sem]
        refine hK _ _ ?_
        clear hK K
        simp only [cw_ret, qseq_ret, qblock_ret, retQ_ret]
        obtain rfl := Option.some.inj hm0
        exact done_t (by simp only [go_sem, List.length_append, List.map_append]) (frz_v _)
      · rw [if_f hc14] at hm0
        simp only [cw_skip, qblock_normal, qseq_normal]
        refine hK13 _ _ ?_
        refine cw_reg_seq fun K hK => ?_
        simp only [go_sem]
        refine hK _ _ ?_
        clear hK K
        simp only [cw_ret, qseq_ret, qblock_ret, retQ_ret]
        obtain rfl := Option.some.inj hm0
        exact done_t (by simp only [go_sem, List.length_append, List.map_append]) (frz_v _)

end Go.Nw.HM

namespace Go.Nw.HM
open Go.Nw.Halls
set_option linter.unusedSimpArgs false
set_option linter.unusedVariables false
set_option maxHeartbeats 4000000
variable {O : Orac}

theorem k_halls_checkD1 (hf : Has O "newel/halls.check$1" x_halls_checkD1) : C_halls_checkD1 O := by
  intro t_ c0
  generalize hm0 : halls_checkD1 t_ c0 = r
  unfold halls_checkD1 at hm0
  refine fn_cw hf rfl (fz_cons (frz_v _) (fz_cons (.fp _ _ (fz_cons (frz_fs fun a _ => fz_eComb a) (fz_cons (frz_fs fun a _ => fz_eTrain a) (fz_cons (frz_fs fun a _ => fz_eShift a) (fz_cons (frz_v _) fz_nil))))) fz_nil)) (frz_v _) ?_
  refine cw_start (fun t h => t 0 = I t_ ∧ t 1 = .fp [.fs 5 (List.map eComb c0.Combs), .fs 3 (List.map eTrain c0.Trains), .fs 3 (List.map eShift c0.Shifts), I c0.Until] 0) ⟨rfl, rfl⟩ fun t h ⟨s0, s1⟩ => ?_
  simp only [x_halls_checkD1]
  refine cw_reg_seq fun K hK => ?_
  simp only [go_sem]
  refine hK _ _ ?_
  clear hK K
  refine cw_reg_postK (fun t h => t 3 = B ((decide (t_ < 0)) || (decide (c0.Until ≤ t_)))) (fun K hK => ?_) ?_
  · simp only [go_sem, s0, s1]
    refine ibr_intro (fun hg1 => ?_) (fun hg1 => ?_)
    · simp only [go_sem, s0, s1, hg1]
      exact hK _ _ (by first | (simp only [go_sem, hg1, List.length_append, List.map_append]; done) | rfl)
    · simp only [go_sem, s0, s1, hg1]
      exact hK _ _ (by first | (simp only [go_sem, hg1, List.length_append, List.map_append]; done) | rfl)
  · rintro t h s3
    simp only [cw_ret, qseq_ret, qblock_ret, retQ_ret]
    obtain rfl := hm0
    exact done_t (by simp only [go_sem, s3, List.length_append, List.map_append]) (frz_v _)

end Go.Nw.HM

namespace Go.Nw.HM
open Go.Nw.Halls
set_option linter.unusedSimpArgs false
set_option linter.unusedVariables false
set_option maxHeartbeats 4000000
variable {O : Orac}

theorem k_halls_in (hf : Has O "newel/halls.in" x_halls_in) : C_halls_in O := by
  intro n s
  generalize hm0 : halls_in n s = r
  unfold halls_in at hm0
  refine fn_cw hf rfl (fz_cons (frz_v _) (fz_cons (.agg _ (fz_cons (frz_v _) (fz_cons (frz_v _) fz_nil))) fz_nil)) (frz_v _) ?_
  refine cw_start (fun t h => t 0 = I n ∧ t 1 = .agg [I s.Low, I s.High]) ⟨rfl, rfl⟩ fun t h ⟨s0, s1⟩ => ?_
  simp only [x_halls_in]
  refine cw_reg_seq fun K hK => ?_
  simp only [go_sem, s1]
  refine hK _ _ ?_
  clear hK K
  refine cw_reg_postK (fun t h => t 4 = B ((decide (s.Low ≤ n)) && (decide (n ≤ s.High)))) (fun K hK => ?_) ?_
  · simp only [go_sem, s0]
    refine ibr_intro (fun hg1 => ?_) (fun hg1 => ?_)
    · simp only [go_sem, s0, hg1]
      exact hK _ _ (by first | (simp only [go_sem, hg1, List.length_append, List.map_append]; done) | rfl)
    · simp only [go_sem, s0, hg1]
      exact hK _ _ (by first | (simp only [go_sem, hg1, List.length_append, List.map_append]; done) | rfl)
  · rintro t h s4
    simp only [cw_ret, qseq_ret, qblock_ret, retQ_ret]
    obtain rfl := hm0
    exact done_t (by simp only [go_sem, s4, List.length_append, List.map_append]) (frz_v _)

end Go.Nw.HM

namespace Go.Nw.HM
open Go.Nw.Halls
set_option linter.unusedSimpArgs false
set_option linter.unusedVariables false
set_option maxHeartbeats 4000000
variable {O : Orac}

theorem k_halls_isComb (hf : Has O "newel/halls.isComb" x_halls_isComb) (k_halls_in : C_halls_in O) (k_halls_span : C_halls_span O) : C_halls_isComb O := by
  intro h_ i r hm0
  unfold halls_isComb at hm0
  refine fn_cw hf rfl (fz_cons (.agg _ (fz_cons (frz_fs fun a _ => fz_eComb a) (fz_cons (frz_fs fun a _ => fz_eTrain a) (fz_cons (frz_fs fun a _ => fz_eShift a) (fz_cons (frz_v _) fz_nil))))) (fz_cons (frz_v _) fz_nil)) (frz_v _) ?_
  refine cw_start (fun t h => t 0 = .agg [.fs 5 (List.map eComb h_.Combs), .fs 3 (List.map eTrain h_.Trains), .fs 3 (List.map eShift h_.Shifts), I h_.Until] ∧ t 1 = I i) ⟨rfl, rfl⟩ fun t h ⟨s0, s1⟩ => ?_
  simp only [x_halls_isComb]
  refine cw_reg_seq fun K hK => ?_
  simp only [go_sem, s0]
  refine hK _ _ ?_
  clear hK K
  obtain ⟨x2, h_x2, hm0⟩ := bind_get hm0
  have h_x20 := get_nn h_x2
  have h_x21 := get_lt h_x2
  refine cw_reg_seq fun K hK => ?_
  simp only [go_sem, s1, ielem_get h_x2, irow_get h_x2, h_x20, h_x21]
  refine hK _ _ ?_
  clear hK K
  refine cw_reg_postK (fun t h => t 4 = B ((((halls_in x2.Rate (Span.mk 0 1000)) && (halls_in x2.Limit (Span.mk 0 100000))) && ((decide (x2.Next = (-1))) || ((decide (i < x2.Next)) && (decide (x2.Next < (List.length h_.Combs : Int)))))) && (halls_span x2.Walk 1 20))) (fun K hK => ?_) ?_
  · simp only [go_sem, s1]
    refine icall_fn (k_halls_in x2.Rate (Span.mk 0 1000)) ?_
    simp only [go_sem, s1]
    refine ibr_intro (fun hg3 => ?_) (fun hg3 => ?_)
    · simp only [go_sem, s1, hg3]
      refine icall_fn (k_halls_in x2.Limit (Span.mk 0 100000)) ?_
      simp only [go_sem, s1, hg3]
      refine ibr_intro (fun hg4 => ?_) (fun hg4 => ?_)
      · simp only [go_sem, s1, hg3, hg4]
        refine ibr_intro (fun hg5 => ?_) (fun hg5 => ?_)
        · simp only [go_sem, s1, hg3, hg4, hg5]
          refine icall_fn (k_halls_span x2.Walk 1 20) ?_
          simp only [go_sem, s1, hg3, hg4, hg5]
          exact hK _ _ (by first | (simp only [go_sem, hg3, hg4, hg5, List.length_append, List.map_append]; done) | rfl)
        · simp only [go_sem, s1, hg3, hg4, hg5]
          refine ibr_intro (fun hg6 => ?_) (fun hg6 => ?_)
          · simp only [go_sem, s1, hg3, hg4, hg5, hg6]
            refine ibr_intro (fun hg7 => ?_) (fun hg7 => ?_)
            · simp only [go_sem, s1, hg3, hg4, hg5, hg6, hg7]
              refine icall_fn (k_halls_span x2.Walk 1 20) ?_
              simp only [go_sem, s1, hg3, hg4, hg5, hg6, hg7]
              exact hK _ _ (by first | (simp only [go_sem, hg3, hg4, hg5, hg6, hg7, List.length_append, List.map_append]; done) | rfl)
            · simp only [go_sem, s1, hg3, hg4, hg5, hg6, hg7]
              exact hK _ _ (by first | (simp only [go_sem, hg3, hg4, hg5, hg6, hg7, List.length_append, List.map_append]; done) | rfl)
          · simp only [go_sem, s1, hg3, hg4, hg5, hg6]
            exact hK _ _ (by first | (simp only [go_sem, hg3, hg4, hg5, hg6, List.length_append, List.map_append]; done) | rfl)
      · simp only [go_sem, s1, hg3, hg4]
        exact hK _ _ (by first | (simp only [go_sem, hg3, hg4, List.length_append, List.map_append]; done) | rfl)
    · simp only [go_sem, s1, hg3]
      exact hK _ _ (by first | (simp only [go_sem, hg3, List.length_append, List.map_append]; done) | rfl)
  · rintro t h s4
    simp only [cw_ret, qseq_ret, qblock_ret, retQ_ret]
    obtain rfl := Option.some.inj hm0
    exact done_t (by simp only [go_sem, s4, List.length_append, List.map_append]) (frz_v _)

end Go.Nw.HM

namespace Go.Nw.HM
open Go.Nw.Halls
set_option linter.unusedSimpArgs false
set_option linter.unusedVariables false
set_option maxHeartbeats 4000000
variable {O : Orac}

theorem k_halls_isTrain (hf : Has O "newel/halls.isTrain" x_halls_isTrain) (k_halls_span : C_halls_span O) : C_halls_isTrain O := by
  intro h_ t_ r hm0
  unfold halls_isTrain at hm0
  refine fn_cw hf rfl (fz_cons (.agg _ (fz_cons (frz_fs fun a _ => fz_eComb a) (fz_cons (frz_fs fun a _ => fz_eTrain a) (fz_cons (frz_fs fun a _ => fz_eShift a) (fz_cons (frz_v _) fz_nil))))) (fz_cons (.agg _ (fz_cons (frz_v _) (fz_cons (frz_v _) (fz_cons (frz_fs fun a _ => fz_eCrowd a) fz_nil)))) fz_nil)) (frz_v _) ?_
  refine cw_start (fun t h => t 0 = .agg [.fs 5 (List.map eComb h_.Combs), .fs 3 (List.map eTrain h_.Trains), .fs 3 (List.map eShift h_.Shifts), I h_.Until] ∧ t 1 = .agg [I t_.At.Low, I t_.At.High, .fs 3 (List.map eCrowd t_.Crowds)]) ⟨rfl, rfl⟩ fun t h ⟨s0, s1⟩ => ?_
  simp only [x_halls_isTrain]
  refine cw_reg_seq fun K hK => ?_
  simp only [go_sem, s0, s1]
  refine hK _ _ ?_
  clear hK K
  refine cw_reg_seq fun K hK => ?_
  simp only [go_sem]
  refine hK _ _ ?_
  clear hK K
  refine cw_assoc ?_
  refine cw_reg_seq fun K hK => ?_
  simp only [go_sem]
  refine hK _ _ ?_
  clear hK K
  refine cw_seq_k fun K1 hK1 => ?_
  have J2 : ∀ (t : Slots) (h : Heap), t 2 = .fp [.fs 5 (List.map eComb h_.Combs), .fs 3 (List.map eTrain h_.Trains), .fs 3 (List.map eShift h_.Shifts), I h_.Until] 0 → t 3 = .fp [I t_.At.Low, I t_.At.High, .fs 3 (List.map eCrowd t_.Crowds)] 0 → halls_isTrain_j2 h_ t_ = some r → K1 t h := by
    intro t h s2 s3 hm0
    refine hK1 _ _ ?_
    unfold halls_isTrain_j2 at hm0
    refine cw_reg_postK (fun t h => t 4 = B ((halls_span t_.At 0 (wr (h_.Until - 1))) && (decide ((List.length t_.Crowds : Int) ≤ 4)))) (fun K hK => ?_) ?_
    · simp only [go_sem, s2, s3]
      refine icall_fn (k_halls_span t_.At 0 (wr (h_.Until - 1))) ?_
      simp only [go_sem, s2, s3]
      refine ibr_intro (fun hg3 => ?_) (fun hg3 => ?_)
      · simp only [go_sem, s2, s3, hg3]
        exact hK _ _ (by first | (simp only [go_sem, hg3, List.length_append, List.map_append]; done) | rfl)
      · simp only [go_sem, s2, s3, hg3]
        exact hK _ _ (by first | (simp only [go_sem, hg3, List.length_append, List.map_append]; done) | rfl)
    · rintro t h s4
      simp only [cw_ret, qseq_ret, qblock_ret, retQ_ret]
      obtain rfl := Option.some.inj hm0
      exact done_t (by simp only [go_sem, s4, List.length_append, List.map_append]) (frz_v _)
  simp only [cw_block]
  obtain ⟨b4, hl4, hm0⟩ := bind_get hm0
  refine cw_loopM hl4 (fun | (last_5, x_11), t, h => t 2 = .fp [.fs 5 (List.map eComb h_.Combs), .fs 3 (List.map eTrain h_.Trains), .fs 3 (List.map eShift h_.Shifts), I h_.Until] 0 ∧ t 3 = .fp [I t_.At.Low, I t_.At.High, .fs 3 (List.map eCrowd t_.Crowds)] 0 ∧ t 5 = I last_5 ∧ t 9 = .fs 3 (List.map eCrowd t_.Crowds) ∧ t 10 = I (List.length t_.Crowds : Int) ∧ t 11 = I x_11) ?_ ?_
  · exact ⟨(by first | (simp only [go_sem, List.length_append, List.map_append]; done) | rfl), (by first | (simp only [go_sem, List.length_append, List.map_append]; done) | rfl), (by first | (simp only [go_sem, List.length_append, List.map_append]; done) | rfl), (by first | (simp only [go_sem, List.length_append, List.map_append]; done) | rfl), (by first | (simp only [go_sem, List.length_append, List.map_append]; done) | rfl), (by first | (simp only [go_sem, List.length_append, List.map_append]; done) | rfl)⟩
  · rintro ⟨last_5, x_11⟩ o t h ⟨s2, s3, s5, s9, s10, s11⟩ hm1 hb4
    simp only [halls_isTrain_L9] at hm1
    rw [x_halls_isTrain_L9]
    refine cw_reg_seq fun K hK => ?_
    simp only [go_sem, s10, s11]
    refine hK _ _ ?_
    clear hK K
    refine cw_seq_k fun K5 hK5 => ?_
    simp only [go_sem]
    refine ibr_intro (fun hc6 => ?_) (fun hc6 => ?_)
    · rw [if_t hc6] at hm1
      simp only [cw_skip, qblock_normal, qseq_normal]
      refine hK5 _ _ ?_
      refine cw_seq_k fun K7 hK7 => ?_
      simp only [cw_block]
      obtain ⟨x9, h_x9, hm1⟩ := bind_get hm1
      have h_x90 := get_nn h_x9
      have h_x91 := get_lt h_x9
      refine cw_reg_seq fun K hK => ?_
      simp only [go_sem, s9, s11, ielem_get h_x9, irow_get h_x9, h_x90, h_x91]
      refine hK _ _ ?_
      clear hK K
      refine cw_assoc ?_
      refine cw_reg_postK (fun t h => ∃ i7 : Nat, t 2 = .fp [.fs 5 (List.map eComb h_.Combs), .fs 3 (List.map eTrain h_.Trains), .fs 3 (List.map eShift h_.Shifts), I h_.Until] 0 ∧ t 3 = .fp [I t_.At.Low, I t_.At.High, .fs 3 (List.map eCrowd t_.Crowds)] 0 ∧ t 7 = .rp i7 0 0 ∧ t 9 = .fs 3 (List.map eCrowd t_.Crowds) ∧ t 10 = I (List.length t_.Crowds : Int) ∧ t 11 = I x_11 ∧ t 32 = B (((decide (x9.Comb ≤ last_5)) || (decide ((List.length h_.Combs : Int) ≤ x9.Comb))) || (!(halls_span x9.People 0 1000))) ∧ h.ob i7 = some (3, [[I x9.Comb, I x9.People.Low, I x9.People.High]]) ∧ i7 < h.nx) (fun K hK => ?_) ?_
      · simp only [go_sem, s2, s5]
        refine ibr_intro (fun hg10 => ?_) (fun hg10 => ?_)
        · simp only [go_sem, s2, s5, hg10]
          exact hK _ _ ⟨h.nx, s2, s3, (by first | (simp only [go_sem, hg10, List.length_append, List.map_append]; done) | rfl), s9, s10, s11, (by first | (simp only [go_sem, hg10, List.length_append, List.map_append]; done) | rfl), (by simp only [go_sem, hg10, List.length_append, List.map_append]), (by simp only [go_sem])⟩
        · simp only [go_sem, s2, s5, hg10]
          refine ibr_intro (fun hg11 => ?_) (fun hg11 => ?_)
          · simp only [go_sem, s2, s5, hg10, hg11]
            exact hK _ _ ⟨h.nx, s2, s3, (by first | (simp only [go_sem, hg10, hg11, List.length_append, List.map_append]; done) | rfl), s9, s10, s11, (by first | (simp only [go_sem, hg10, hg11, List.length_append, List.map_append]; done) | rfl), (by simp only [go_sem, hg10, hg11, List.length_append, List.map_append]), (by simp only [go_sem])⟩
          · simp only [go_sem, s2, s5, hg10, hg11]
            refine icall_fn (k_halls_span x9.People 0 1000) ?_
            simp only [go_sem, s2, s5, hg10, hg11]
            exact hK _ _ ⟨h.nx, s2, s3, (by first | (simp only [go_sem, hg10, hg11, List.length_append, List.map_append]; done) | rfl), s9, s10, s11, (by first | (simp only [go_sem, hg10, hg11, List.length_append, List.map_append]; done) | rfl), (by simp only [go_sem, hg10, hg11, List.length_append, List.map_append]), (by simp only [go_sem])⟩
      · rintro t h ⟨i7, s2, s3, s7, s9, s10, s11, s32, ob_o7, lt_o7⟩
        refine cw_seq_k fun K12 hK12 => ?_
        simp only [go_sem, s32]
        refine ibr_intro (fun hc13 => ?_) (fun hc13 => ?_)
        · rw [if_t hc13] at hm1
          refine cw_reg_seq fun K hK => ?_
          simp only [go_sem, lt_o7]
          refine hK _ _ ?_
          clear hK K
          simp only [cw_ret, qseq_ret, qblock_ret, retQ_ret]
          obtain rfl := Option.some.inj hm1
          obtain rfl := hb4 _ rfl
          try dsimp only at hm0
          obtain rfl := Option.some.inj hm0
          exact done_t (by simp only [go_sem, ob_o7, lt_o7, List.length_append, List.map_append]) (frz_v _)
        · rw [if_f hc13] at hm1
          simp only [cw_skip, qblock_normal, qseq_normal]
          refine hK12 _ _ ?_
          refine cw_reg_k fun K hK => ?_
          simp only [go_sem, s7, ob_o7, lt_o7]
          refine hK _ _ ?_
          clear hK K
          simp only [qblock_normal, qseq_normal]
          refine hK7 _ _ ?_
          refine cw_reg_k fun K hK => ?_
          simp only [go_sem, s11, lt_o7]
          refine hK _ _ ?_
          clear hK K
          simp only [qblock_normal, qseq_normal]
          obtain rfl := Option.some.inj hm1
          refine ⟨_, rfl, ?_⟩
          exact ⟨s2, s3, (by first | (simp only [go_sem, List.length_append, List.map_append]; done) | rfl), s9, s10, (by first | (simp only [go_sem, s11, List.length_append, List.map_append]; done) | rfl)⟩
    · rw [if_f hc6] at hm1
      simp only [cw_exit, qseq_exit, qblock_same, qblock_ne, qblock_normal, qseq_normal, Nat.reduceEqDiff, not_false_eq_true]
      obtain rfl := Option.some.inj hm1
      obtain rfl := hb4 _ rfl
      try dsimp only at hm0
      exact J2  _ _ s2 s3 hm0

end Go.Nw.HM

namespace Go.Nw.HM
open Go.Nw.Halls
set_option linter.unusedSimpArgs false
set_option linter.unusedVariables false
set_option maxHeartbeats 4000000
variable {O : Orac}

theorem k_halls_open (hf : Has O "newel/halls.open" x_halls_open) (k_halls_rates : C_halls_rates O) : C_halls_open O := by
  intro h_ r hm0
  unfold halls_open at hm0
  refine fn_cw hf rfl (fz_cons (.agg _ (fz_cons (frz_fs fun a _ => fz_eComb a) (fz_cons (frz_fs fun a _ => fz_eTrain a) (fz_cons (frz_fs fun a _ => fz_eShift a) (fz_cons (frz_v _) fz_nil))))) fz_nil) (frz_fs fun a _ => fz_eL_I a) ?_
  refine cw_start (fun t h => t 0 = .agg [.fs 5 (List.map eComb h_.Combs), .fs 3 (List.map eTrain h_.Trains), .fs 3 (List.map eShift h_.Shifts), I h_.Until]) rfl fun t h s0 => ?_
  simp only [x_halls_open]
  refine cw_reg_seq fun K hK => ?_
  simp only [go_sem, s0]
  refine hK _ _ ?_
  clear hK K
  refine cw_assoc ?_
  refine cw_reg_seq fun K hK => ?_
  simp only [go_sem]
  refine hK _ _ ?_
  clear hK K
  refine cw_seq_k fun K1 hK1 => ?_
  have J2 : ∀ (out_2 : List (List Int)) (v2 : AV) (t : Slots) (h : Heap), t 2 = v2 → OwnS h v2 1 (List.map eL_I out_2) → halls_open_j2 out_2 = some r → K1 t h := by
    intro out_2 v2 t h s2 ow_o2 hm0
    refine hK1 _ _ ?_
    unfold halls_open_j2 at hm0
    refine cw_reg_seq fun K hK => ?_
    simp only [go_sem, s2, istr_of v2]
    refine hK _ _ ?_
    clear hK K
    simp only [cw_ret, qseq_ret, qblock_ret, retQ_ret]
    obtain rfl := Option.some.inj hm0
    exact done_fz (v := v2) (by simp only [go_sem, s2, own_late ow_o2, List.length_append, List.map_append]) (fz_own (f := eL_I) (l := out_2) (own_later ow_o2 (by intro j hj hl; first | rfl | simp only [go_sem, hl]) (by first | omega | exact Nat.le_refl _ | (simp only [go_sem, nxs] <;> omega))) fz_eL_I ln_eL_I)
  simp only [cw_block]
  obtain ⟨b3, hl3, hm0⟩ := bind_get hm0
  refine cw_loopM hl3 (fun | (out_2, x_7), t, h => ∃ v2 : AV, t 1 = .fp [.fs 5 (List.map eComb h_.Combs), .fs 3 (List.map eTrain h_.Trains), .fs 3 (List.map eShift h_.Shifts), I h_.Until] 0 ∧ t 2 = v2 ∧ t 6 = I (List.length h_.Combs : Int) ∧ t 7 = I x_7 ∧ OwnS h v2 1 (List.map eL_I out_2)) ?_ ?_
  · exact ⟨(.v (.slice none 0 0)), (by first | (simp only [go_sem, List.length_append, List.map_append]; done) | rfl), (by first | (simp only [go_sem, List.length_append, List.map_append]; done) | rfl), (by first | (simp only [go_sem, List.length_append, List.map_append]; done) | rfl), (by first | (simp only [go_sem, List.length_append, List.map_append]; done) | rfl), own_nil'⟩
  · rintro ⟨out_2, x_7⟩ o t h ⟨v2, s1, s2, s6, s7, ow_o2⟩ hm1 hb3
    simp only [halls_open_L6] at hm1
    rw [x_halls_open_L6]
    refine cw_reg_seq fun K hK => ?_
    simp only [go_sem, s6, s7, istr_of v2]
    refine hK _ _ ?_
    clear hK K
    refine cw_seq_k fun K4 hK4 => ?_
    simp only [go_sem]
    refine ibr_intro (fun hc5 => ?_) (fun hc5 => ?_)
    · rw [if_t hc5] at hm1
      simp only [cw_skip, qblock_normal, qseq_normal]
      refine hK4 _ _ ?_
      refine cw_seq_k fun K6 hK6 => ?_
      simp only [cw_block]
      refine cw_reg_seq fun K hK => ?_
      simp only [go_sem, s7, istr_of v2]
      refine hK _ _ ?_
      clear hK K
      obtain ⟨y9, h_y9, hm1⟩ := bind_get hm1
      obtain ⟨l10, h_l10, hm1⟩ := bind_get hm1
      refine cw_reg_seq fun K hK => ?_
      simp only [go_sem, s1, s2, istr_of v2]
      refine icall_ow (e := eI) (l := y9) ?_ (k_halls_rates h_ x_7 _ h_y9) ?_
      · exact .cons (.refl _ (.agg _ (fz_cons (frz_fs fun a _ => fz_eComb a) (fz_cons (frz_fs fun a _ => fz_eTrain a) (fz_cons (frz_fs fun a _ => fz_eShift a) (fz_cons (frz_v _) fz_nil)))))) (.cons (.refl _ (frz_v _)) (.nil))
      simp only [go_sem, s1, s2, istr_of v2]
      refine iapp_raw (f := eL_I) (l := out_2) (a := y9) (raw := [.rs h.nx 0 (List.length y9)]) ?_ ?_ ?_ h_l10 ?_
      · exact (own_later ow_o2 (by intro j hj hl; first | rfl | simp only [go_sem, hl]) (by first | omega | exact Nat.le_refl _ | (simp only [go_sem, nxs] <;> omega)))
      · exact (by simp only [go_sem, own_late ow_o2, List.length_append, List.map_append])
      · exact (by first | exact notid_nil | exact notid_rs (by first | omega | (simp only [nxs] <;> omega)) | assumption | exact own_notid (by assumption) (by first | omega | (simp only [go_sem, nxs] <;> omega)))
      simp only [go_sem, s1, s2, istr_of v2]
      refine hK _ _ ?_
      clear hK K
      refine cw_ghost_skip ?_
      refine cw_ghost_row (id := (nxs (nxs h.nx))) (sz := 1) (f := eL_I) (l := out_2) (a := y9) (raw := [.rs h.nx 0 (List.length y9)]) (fun j => j == h.nx) (by simp only [go_sem, own_late ow_o2, List.length_append, List.map_append]) (by first | (simp; done) | (simp [nxs] <;> omega)) (.cons (fz_rs (f := eI) (l := y9) (id := h.nx) (by rw [only_ob (by simp)]; simp only [go_sem, own_late ow_o2, List.length_append, List.map_append]) (by first | rfl | simp only [go_sem, List.length_append, List.map_append]) fz_eI ln_eI) (.nil)) fz_eL_I ln_eL_I ?_
      rw [← (ap_get h_l10).2]
      simp only [cw_skip, qblock_normal, qseq_normal]
      refine hK6 _ _ ?_
      refine cw_reg_k fun K hK => ?_
      simp only [go_sem, s7, Bool.or_eq_false_iff, beq_eq_false_iff_ne, ne_eq, not_false_eq_true, and_self, istr_of v2]
      refine hK _ _ ?_
      clear hK K
      simp only [qblock_normal, qseq_normal]
      obtain rfl := Option.some.inj hm1
      refine ⟨_, rfl, ?_⟩
      exact ⟨(.rs (nxs (nxs h.nx)) 0 (List.length l10)), s1, (by first | (simp only [go_sem, s2, List.length_append, List.map_append]; done) | rfl), s6, (by first | (simp only [go_sem, s7, List.length_append, List.map_append]; done) | rfl), (own_rs (by simp only [go_sem, Bool.or_eq_false_iff, beq_eq_false_iff_ne, ne_eq, not_false_eq_true, and_self, own_late ow_o2, List.length_append, List.map_append]) (by first | rfl | simp only [go_sem, List.length_append, List.map_append]) (by simp only [go_sem]))⟩
    · rw [if_f hc5] at hm1
      simp only [cw_exit, qseq_exit, qblock_same, qblock_ne, qblock_normal, qseq_normal, Nat.reduceEqDiff, not_false_eq_true]
      obtain rfl := Option.some.inj hm1
      obtain rfl := hb3 _ rfl
      try dsimp only at hm0
      exact J2 out_2 v2 _ _ s2 ow_o2 hm0

end Go.Nw.HM

namespace Go.Nw.HM
open Go.Nw.Halls
set_option linter.unusedSimpArgs false
set_option linter.unusedVariables false
set_option maxHeartbeats 4000000
variable {O : Orac}

theorem k_halls_open_w (hf : Has O "newel/halls.open" x_halls_open) (k_halls_rates : C_halls_rates O) : C_halls_open_w O := by
  intro h_ h0 r hm0
  unfold halls_open at hm0
  refine hasw_cw hf rfl ?_
  refine cw_start (fun t h => t 0 = .agg [.fs 5 (List.map eComb h_.Combs), .fs 3 (List.map eTrain h_.Trains), .fs 3 (List.map eShift h_.Shifts), I h_.Until] ∧ (∀ j, j < h0.nx → h.ob j = h0.ob j) ∧ h0.nx ≤ h.nx) ⟨rfl, fun _ _ => rfl, Nat.le_refl _⟩ fun t h ⟨s0, fr, fx⟩ => ?_
  simp only [x_halls_open]
  refine cw_reg_seq fun K hK => ?_
  simp only [go_sem, s0]
  refine hK _ _ ?_
  clear hK K
  refine cw_assoc ?_
  refine cw_reg_seq fun K hK => ?_
  simp only [go_sem]
  refine hK _ _ ?_
  clear hK K
  refine cw_seq_k fun K1 hK1 => ?_
  have J2 : ∀ (out_2 : List (List Int)) (v2 : AV) (hs2 : List AV) (t : Slots) (h : Heap), t 2 = v2 → RR h v2 hs2 1 eI out_2 → (∀ j, j < h0.nx → h.ob j = h0.ob j) → h0.nx ≤ h.nx → (∀ j, ¬RNot v2 hs2 j → h0.nx ≤ j) → halls_open_j2 out_2 = some r → K1 t h := by
    intro out_2 v2 hs2 t h s2 rr_o2 fr fx ge_o2 hm0
    refine hK1 _ _ ?_
    unfold halls_open_j2 at hm0
    refine cw_reg_seq fun K hK => ?_
    simp only [go_sem, s2, rr_len rr_o2, istr_of v2]
    refine hK _ _ ?_
    clear hK K
    simp only [cw_ret, qseq_ret, qblock_ret, retQ_ret]
    obtain rfl := Option.some.inj hm0
    exact retw_t (Post := fun v h => ∃ hs, RR h v hs 1 eI out_2 ∧ (∀ j, j < h0.nx → h.ob j = h0.ob j) ∧ h0.nx ≤ h.nx ∧ ∀ j, ¬RNot v hs j → h0.nx ≤ j) (v := v2) (by simp only [go_sem, s2, rr_lates rr_o2, List.length_append, List.map_append]) ⟨hs2, rr_o2, fr, fx, ge_o2⟩
  simp only [cw_block]
  obtain ⟨b3, hl3, hm0⟩ := bind_get hm0
  refine cw_loopM hl3 (fun | (out_2, x_7), t, h => ∃ v2 : AV, ∃ hs2 : List AV, t 1 = .fp [.fs 5 (List.map eComb h_.Combs), .fs 3 (List.map eTrain h_.Trains), .fs 3 (List.map eShift h_.Shifts), I h_.Until] 0 ∧ t 2 = v2 ∧ t 6 = I (List.length h_.Combs : Int) ∧ t 7 = I x_7 ∧ RR h v2 hs2 1 eI out_2 ∧ (∀ j, j < h0.nx → h.ob j = h0.ob j) ∧ h0.nx ≤ h.nx ∧ (∀ j, ¬RNot v2 hs2 j → h0.nx ≤ j)) ?_ ?_
  · exact ⟨nilS, [], (by first | (simp only [go_sem, List.length_append, List.map_append]; done) | rfl), (by first | (simp only [go_sem, List.length_append, List.map_append]; done) | rfl), (by first | (simp only [go_sem, List.length_append, List.map_append]; done) | rfl), (by first | (simp only [go_sem, List.length_append, List.map_append]; done) | rfl), rr_nil, fr, fx, (fun _ hj => absurd rnot_nil hj)⟩
  · rintro ⟨out_2, x_7⟩ o t h ⟨v2, hs2, s1, s2, s6, s7, rr_o2, fr, fx, ge_o2⟩ hm1 hb3
    simp only [halls_open_L6] at hm1
    rw [x_halls_open_L6]
    refine cw_reg_seq fun K hK => ?_
    simp only [go_sem, s6, s7, istr_of v2]
    refine hK _ _ ?_
    clear hK K
    refine cw_seq_k fun K4 hK4 => ?_
    simp only [go_sem]
    refine ibr_intro (fun hc5 => ?_) (fun hc5 => ?_)
    · rw [if_t hc5] at hm1
      simp only [cw_skip, qblock_normal, qseq_normal]
      refine hK4 _ _ ?_
      refine cw_seq_k fun K6 hK6 => ?_
      simp only [cw_block]
      refine cw_reg_seq fun K hK => ?_
      simp only [go_sem, s7, istr_of v2]
      refine hK _ _ ?_
      clear hK K
      obtain ⟨y9, h_y9, hm1⟩ := bind_get hm1
      obtain ⟨l10, h_l10, hm1⟩ := bind_get hm1
      refine cw_reg_postK (fun t h => ∃ v2_1 : AV, ∃ hs2_1 : List AV, t 1 = .fp [.fs 5 (List.map eComb h_.Combs), .fs 3 (List.map eTrain h_.Trains), .fs 3 (List.map eShift h_.Shifts), I h_.Until] 0 ∧ t 2 = v2_1 ∧ t 6 = I (List.length h_.Combs : Int) ∧ t 7 = I x_7 ∧ RR h v2_1 hs2_1 1 eI l10 ∧ (∀ j, j < h0.nx → h.ob j = h0.ob j) ∧ h0.nx ≤ h.nx ∧ (∀ j, ¬RNot v2_1 hs2_1 j → h0.nx ≤ j)) (fun K hK => ?_) ?_
      · simp only [go_sem, s1, s2, rr_len rr_o2, istr_of v2]
        refine icall_ow (e := eI) (l := y9) ?_ (k_halls_rates h_ x_7 _ h_y9) ?_
        · exact .cons (.refl _ (.agg _ (fz_cons (frz_fs fun a _ => fz_eComb a) (fz_cons (frz_fs fun a _ => fz_eTrain a) (fz_cons (frz_fs fun a _ => fz_eShift a) (fz_cons (frz_v _) fz_nil)))))) (.cons (.refl _ (frz_v _)) (.nil))
        simp only [go_sem, s1, s2, rr_len rr_o2, istr_of v2]
        refine iapp_rr (f := eI) (sz := 1) (rows := out_2) (hs := hs2) (u := .rs h.nx 0 (List.length y9)) ?_ ?_ ?_ h_l10 ?_
        · exact (rr_later rr_o2 (by intro j hj  hl; first | rfl | simp only [go_sem, hl]) (by first | omega | exact Nat.le_refl _ | (simp only [go_sem, nxs] <;> omega)))
        · exact (by simp only [go_sem, rr_lates rr_o2, List.length_append, List.map_append])
        · exact (rr_late rr_o2 (by first | assumption | omega | (simp only [nxs] <;> omega)))
        simp only [go_sem, s1, s2, rr_len rr_o2, istr_of v2]
        exact hK _ _ ⟨(.rs (nxs (nxs h.nx)) 0 (List.length l10)), (hs2 ++ [.rs h.nx 0 (List.length y9)]), s1, (by first | (simp only [go_sem, s2, List.length_append, List.map_append]; done) | rfl), s6, s7, (rr_app (h := h) rr_o2 h_l10 (by simp only [go_sem, rr_lates rr_o2, List.length_append, List.map_append]) rfl (by simp only [go_sem]) (own_rs (by simp only [go_sem, rr_lates rr_o2, List.length_append, List.map_append]) (by simp only [go_sem, rr_lates rr_o2, List.length_append, List.map_append]) (by simp only [go_sem])) (dr_rs (by first | assumption | exact rr_late rr_o2 (by first | omega | (simp only [nxs] <;> omega)))) (by first | omega | exact Nat.le_refl _ | (simp only [go_sem, nxs] <;> omega)) (by first | exact notid_nil | exact notid_rs (by first | assumption | omega | (simp only [nxs] <;> omega))) (by intro j hj h2 hl; first | rfl | simp only [go_sem, h2, hl]) (by first | omega | exact Nat.le_refl _ | (simp only [go_sem, nxs] <;> omega))), (by intro j hj; first | exact fr j hj | (refine Eq.trans ?_ (fr j hj); first | rfl | simp only [go_sem, Nat.lt_of_lt_of_le hj fx, rn_top (ge_rn ge_o2 hj)])), (by first | exact fx | omega | (simp only [go_sem, nxs] <;> omega)), (ge_app ge_o2 (by first | assumption | omega | (simp only [nxs] <;> omega)) (ge_rs (by first | assumption | omega | (simp only [nxs] <;> omega))))⟩
      · rintro t h ⟨v2_1, hs2_1, s1, s2, s6, s7, rr_o2, fr, fx, ge_o2⟩
        refine cw_ghost_skip ?_
        refine cw_ghost_none ?_
        simp only [cw_skip, qblock_normal, qseq_normal]
        refine hK6 _ _ ?_
        refine cw_reg_k fun K hK => ?_
        simp only [go_sem, s7, istr_of v2, istr_of v2_1]
        refine hK _ _ ?_
        clear hK K
        simp only [qblock_normal, qseq_normal]
        obtain rfl := Option.some.inj hm1
        refine ⟨_, rfl, ?_⟩
        exact ⟨v2_1, hs2_1, s1, s2, s6, (by first | (simp only [go_sem, s7, List.length_append, List.map_append]; done) | rfl), (rr_later rr_o2 (by intro j hj  hl; first | rfl | simp only [go_sem, hl]) (by first | omega | exact Nat.le_refl _ | (simp only [go_sem, nxs] <;> omega))), (by intro j hj; first | exact fr j hj | (refine Eq.trans ?_ (fr j hj); first | rfl | simp only [go_sem, Nat.lt_of_lt_of_le hj fx])), (by first | exact fx | omega | (simp only [go_sem, nxs] <;> omega)), ge_o2⟩
    · rw [if_f hc5] at hm1
      simp only [cw_exit, qseq_exit, qblock_same, qblock_ne, qblock_normal, qseq_normal, Nat.reduceEqDiff, not_false_eq_true]
      obtain rfl := Option.some.inj hm1
      obtain rfl := hb3 _ rfl
      try dsimp only at hm0
      exact J2 out_2 v2 hs2 _ _ s2 rr_o2 fr fx ge_o2 hm0

end Go.Nw.HM

namespace Go.Nw.HM
open Go.Nw.Halls
set_option linter.unusedSimpArgs false
set_option linter.unusedVariables false
set_option maxHeartbeats 4000000
variable {O : Orac}

theorem k_halls_over (hf : Has O "newel/halls.over" x_halls_over) (k_slices_IndexFunc___int_int_ : C_slices_IndexFunc___int_int_ O) (k_halls_overD1 : C_halls_overD1 O) : C_halls_over O := by
  intro h_ all r hm0
  unfold halls_over at hm0
  refine fn_cw hf rfl (fz_cons (.agg _ (fz_cons (frz_fs fun a _ => fz_eComb a) (fz_cons (frz_fs fun a _ => fz_eTrain a) (fz_cons (frz_fs fun a _ => fz_eShift a) (fz_cons (frz_v _) fz_nil))))) (fz_cons (frz_fs fun a _ => fz_eP_halls_bound a) fz_nil)) (frz_fs fun a _ => fz_eA2_I a) ?_
  refine cw_start (fun t h => t 0 = .agg [.fs 5 (List.map eComb h_.Combs), .fs 3 (List.map eTrain h_.Trains), .fs 3 (List.map eShift h_.Shifts), I h_.Until] ∧ t 1 = .fs 1 (List.map eP_halls_bound all)) ⟨rfl, rfl⟩ fun t h ⟨s0, s1⟩ => ?_
  simp only [x_halls_over]
  refine cw_reg_seq fun K hK => ?_
  simp only [go_sem, s0]
  refine hK _ _ ?_
  clear hK K
  refine cw_assoc ?_
  refine cw_reg_seq fun K hK => ?_
  simp only [go_sem, s1]
  refine hK _ _ ?_
  clear hK K
  refine cw_seq_k fun K1 hK1 => ?_
  have J2 : ∀ (out_4 : List (Int × Int)) (v4 : AV) (t : Slots) (h : Heap), t 4 = v4 → OwnS h v4 2 (List.map eA2_I out_4) → halls_over_j2 out_4 = some r → K1 t h := by
    intro out_4 v4 t h s4 ow_o4 hm0
    refine hK1 _ _ ?_
    unfold halls_over_j2 at hm0
    refine cw_reg_seq fun K hK => ?_
    simp only [go_sem, s4, istr_of v4]
    refine hK _ _ ?_
    clear hK K
    simp only [cw_ret, qseq_ret, qblock_ret, retQ_ret]
    obtain rfl := Option.some.inj hm0
    exact done_fz (v := v4) (by simp only [go_sem, s4, own_late ow_o4, List.length_append, List.map_append]) (fz_own (f := eA2_I) (l := out_4) (own_later ow_o4 (by intro j hj hl; first | rfl | simp only [go_sem, hl]) (by first | omega | exact Nat.le_refl _ | (simp only [go_sem, nxs] <;> omega))) fz_eA2_I ln_eA2_I)
  simp only [cw_block]
  obtain ⟨b3, hl3, hm0⟩ := bind_get hm0
  refine cw_loopM hl3 (fun | (out_4, x_10), t, h => ∃ v4 : AV, t 2 = .fp [.fs 5 (List.map eComb h_.Combs), .fs 3 (List.map eTrain h_.Trains), .fs 3 (List.map eShift h_.Shifts), I h_.Until] 0 ∧ t 4 = v4 ∧ t 8 = .fs 1 (List.map eP_halls_bound all) ∧ t 9 = I (List.length all : Int) ∧ t 10 = I x_10 ∧ OwnS h v4 2 (List.map eA2_I out_4)) ?_ ?_
  · exact ⟨(.v (.slice none 0 0)), (by first | (simp only [go_sem, List.length_append, List.map_append]; done) | rfl), (by first | (simp only [go_sem, List.length_append, List.map_append]; done) | rfl), (by first | (simp only [go_sem, List.length_append, List.map_append]; done) | rfl), (by first | (simp only [go_sem, List.length_append, List.map_append]; done) | rfl), (by first | (simp only [go_sem, List.length_append, List.map_append]; done) | rfl), own_nil'⟩
  · rintro ⟨out_4, x_10⟩ o t h ⟨v4, s2, s4, s8, s9, s10, ow_o4⟩ hm1 hb3
    simp only [halls_over_L8] at hm1
    rw [x_halls_over_L8]
    refine cw_reg_seq fun K hK => ?_
    simp only [go_sem, s9, s10, istr_of v4]
    refine hK _ _ ?_
    clear hK K
    refine cw_seq_k fun K4 hK4 => ?_
    simp only [go_sem]
    refine ibr_intro (fun hc5 => ?_) (fun hc5 => ?_)
    · rw [if_t hc5] at hm1
      simp only [cw_skip, qblock_normal, qseq_normal]
      refine hK4 _ _ ?_
      refine cw_seq_k fun K6 hK6 => ?_
      have J7 : ∀ (out_4_1 : List (Int × Int)) (v4_1 : AV) (t : Slots) (h : Heap), t 2 = .fp [.fs 5 (List.map eComb h_.Combs), .fs 3 (List.map eTrain h_.Trains), .fs 3 (List.map eShift h_.Shifts), I h_.Until] 0 → t 4 = v4_1 → t 8 = .fs 1 (List.map eP_halls_bound all) → t 9 = I (List.length all : Int) → t 10 = I x_10 → OwnS h v4_1 2 (List.map eA2_I out_4_1) → halls_over_j7 x_10 out_4_1 = some o → K6 t h := by
        intro out_4_1 v4_1 t h s2 s4 s8 s9 s10 ow_o4 hm1
        refine hK6 _ _ ?_
        unfold halls_over_j7 at hm1
        refine cw_reg_k fun K hK => ?_
        simp only [go_sem, s10, istr_of v4, istr_of v4_1]
        refine hK _ _ ?_
        clear hK K
        simp only [qblock_normal, qseq_normal]
        obtain rfl := Option.some.inj hm1
        refine ⟨_, rfl, ?_⟩
        exact ⟨v4_1, s2, s4, s8, s9, (by first | (simp only [go_sem, s10, List.length_append, List.map_append]; done) | rfl), ow_o4⟩
      simp only [cw_block]
      obtain ⟨x9, h_x9, hm1⟩ := bind_get hm1
      have h_x90 := get_nn h_x9
      have h_x91 := get_lt h_x9
      refine cw_reg_seq fun K hK => ?_
      simp only [go_sem, s8, s10, ielem_get h_x9, irow_get h_x9, h_x90, h_x91, istr_of v4]
      refine hK _ _ ?_
      clear hK K
      obtain ⟨y13, h_y13, hm1⟩ := bind_get hm1
      refine cw_reg_seq fun K hK => ?_
      simp only [go_sem, s2, istr_of v4]
      refine icall_fz ?_ (k_slices_IndexFunc___int_int_ x9.most "newel/halls.over$1" [] [.fp [.fs 5 (List.map eComb h_.Combs), .fs 3 (List.map eTrain h_.Trains), .fs 3 (List.map eShift h_.Shifts), I h_.Until] 0, .fp [I x_10] 0] (fun z12 => halls_overD1 z12 h_ x_10) (.fn _ _ _ fz_nil (fz_cons (.fp _ _ (fz_cons (frz_fs fun a _ => fz_eComb a) (fz_cons (frz_fs fun a _ => fz_eTrain a) (fz_cons (frz_fs fun a _ => fz_eShift a) (fz_cons (frz_v _) fz_nil))))) (fz_cons (.fp _ _ (fz_cons (frz_v _) fz_nil)) fz_nil))) (fun z0 y hz => k_halls_overD1 z0 h_ x_10 y hz) _ h_y13) (.v _) ?_
      · exact .cons (.refl _ (frz_fs fun a _ => fz_eI a)) (.cons (fz_fn (.nil) (.cons (.refl _ (.fp _ _ (fz_cons (frz_fs fun a _ => fz_eComb a) (fz_cons (frz_fs fun a _ => fz_eTrain a) (fz_cons (frz_fs fun a _ => fz_eShift a) (fz_cons (frz_v _) fz_nil)))))) (.cons (fz_rp (id := h.nx) (sz := 1) (xs := [I x_10]) (by simp only [go_sem, own_late ow_o4]) (.cons (.refl _ (frz_v _)) (.nil))) (.nil)))) (.nil))
      simp only [go_sem, s2, istr_of v4]
      refine hK _ _ ?_
      clear hK K
      refine cw_reg_seq fun K hK => ?_
      simp only [go_sem, istr_of v4]
      refine hK _ _ ?_
      clear hK K
      simp only [go_sem]
      refine ibr_intro (fun hc14 => ?_) (fun hc14 => ?_)
      · rw [if_t hc14] at hm1
        obtain ⟨l16, h_l16, hm1⟩ := bind_get hm1
        refine cw_reg_k fun K hK => ?_
        simp only [go_sem, s4, istr_of v4]
        refine iapp_own (f := eA2_I) (l := out_4) (m := ([(x_10, y13)])) ?_ ?_ ?_ ?_ h_l16 ?_
        · exact (own_later ow_o4 (by intro j hj hl; first | rfl | simp only [go_sem, hl]) (by first | omega | exact Nat.le_refl _ | (simp only [go_sem, nxs] <;> omega)))
        · exact (ownx_rs (by simp only [go_sem, own_late ow_o4, List.length_append, List.map_append]) (by simp only [go_sem, own_late ow_o4, List.length_append, List.map_append]))
        · exact (nd_rs (by first | exact notid_nil | exact notid_rs (by first | omega | (simp only [nxs] <;> omega)) | assumption | exact own_notid (by assumption) (by first | omega | (simp only [go_sem, nxs] <;> omega))))
        · exact (fun _ => by simp)
        simp only [go_sem, s4, istr_of v4]
        refine hK _ _ ?_
        clear hK K
        simp only [qblock_normal, qseq_normal]
        exact J7 l16 (.rs (nxs (nxs h.nx)) 0 (List.length l16)) _ _ s2 (by first | (simp only [go_sem, s4, List.length_append, List.map_append]; done) | rfl) s8 s9 s10 (own_rs (by simp only [go_sem, own_late ow_o4, List.length_append, List.map_append]) (by first | rfl | simp only [go_sem, List.length_append, List.map_append]) (by simp only [go_sem])) hm1
      · rw [if_f hc14] at hm1
        simp only [cw_skip, qblock_normal, qseq_normal]
        exact J7 out_4 v4 _ _ s2 s4 s8 s9 s10 (own_later ow_o4 (by intro j hj hl; first | rfl | simp only [go_sem, hl]) (by first | omega | exact Nat.le_refl _ | (simp only [go_sem, nxs] <;> omega))) hm1
    · rw [if_f hc5] at hm1
      simp only [cw_exit, qseq_exit, qblock_same, qblock_ne, qblock_normal, qseq_normal, Nat.reduceEqDiff, not_false_eq_true]
      obtain rfl := Option.some.inj hm1
      obtain rfl := hb3 _ rfl
      try dsimp only at hm0
      exact J2 out_4 v4 _ _ s4 ow_o4 hm0

end Go.Nw.HM

namespace Go.Nw.HM
open Go.Nw.Halls
set_option linter.unusedSimpArgs false
set_option linter.unusedVariables false
set_option maxHeartbeats 4000000
variable {O : Orac}

theorem k_halls_overD1 (hf : Has O "newel/halls.over$1" x_halls_overD1) : C_halls_overD1 O := by
  intro n c0 c1 r hm0
  unfold halls_overD1 at hm0
  refine fn_cw hf rfl (fz_cons (frz_v _) (fz_cons (.fp _ _ (fz_cons (frz_fs fun a _ => fz_eComb a) (fz_cons (frz_fs fun a _ => fz_eTrain a) (fz_cons (frz_fs fun a _ => fz_eShift a) (fz_cons (frz_v _) fz_nil))))) (fz_cons (.fp _ _ (fz_cons (frz_v _) fz_nil)) fz_nil))) (frz_v _) ?_
  refine cw_start (fun t h => t 0 = I n ∧ t 1 = .fp [.fs 5 (List.map eComb c0.Combs), .fs 3 (List.map eTrain c0.Trains), .fs 3 (List.map eShift c0.Shifts), I c0.Until] 0 ∧ t 2 = .fp [I c1] 0) ⟨rfl, rfl, rfl⟩ fun t h ⟨s0, s1, s2⟩ => ?_
  simp only [x_halls_overD1]
  refine cw_reg_seq fun K hK => ?_
  simp only [go_sem]
  refine hK _ _ ?_
  clear hK K
  obtain ⟨x2, h_x2, hm0⟩ := bind_get hm0
  have h_x20 := get_nn h_x2
  have h_x21 := get_lt h_x2
  refine cw_reg_seq fun K hK => ?_
  simp only [go_sem, s0, s1, s2, ielem_get h_x2, irow_get h_x2, h_x20, h_x21]
  refine hK _ _ ?_
  clear hK K
  simp only [cw_ret, qseq_ret, qblock_ret, retQ_ret]
  obtain rfl := Option.some.inj hm0
  exact done_t (by simp only [go_sem, List.length_append, List.map_append]) (frz_v _)

end Go.Nw.HM

namespace Go.Nw.HM
open Go.Nw.Halls
set_option linter.unusedSimpArgs false
set_option linter.unusedVariables false
set_option maxHeartbeats 4000000
variable {O : Orac}

theorem k_halls_rates (hf : Has O "newel/halls.rates" x_halls_rates) : C_halls_rates O := by
  intro h_ comb r hm0
  unfold halls_rates at hm0
  refine fnw_cw hf rfl (fz_cons (.agg _ (fz_cons (frz_fs fun a _ => fz_eComb a) (fz_cons (frz_fs fun a _ => fz_eTrain a) (fz_cons (frz_fs fun a _ => fz_eShift a) (fz_cons (frz_v _) fz_nil))))) (fz_cons (frz_v _) fz_nil)) (by first | exact plain_eI | exact plain_eB) ?_
  refine cw_start (fun t h => t 0 = .agg [.fs 5 (List.map eComb h_.Combs), .fs 3 (List.map eTrain h_.Trains), .fs 3 (List.map eShift h_.Shifts), I h_.Until] ∧ t 1 = I comb) ⟨rfl, rfl⟩ fun t h ⟨s0, s1⟩ => ?_
  simp only [x_halls_rates]
  refine cw_reg_seq fun K hK => ?_
  simp only [go_sem, s0]
  refine hK _ _ ?_
  clear hK K
  obtain ⟨l2, h_l2, hm0⟩ := bind_get hm0
  refine cw_reg_seq fun K hK => ?_
  simp only [go_sem]
  refine imksl_ok (f := eI) (z := 0) rfl h_l2 ?_
  simp only [go_sem]
  refine hK _ _ ?_
  clear hK K
  obtain ⟨x4, h_x4, hm0⟩ := bind_get hm0
  have h_x40 := get_nn h_x4
  have h_x41 := get_lt h_x4
  refine cw_reg_seq fun K hK => ?_
  simp only [go_sem, s1, ielem_get h_x4, irow_get h_x4, h_x40, h_x41]
  refine hK _ _ ?_
  clear hK K
  refine cw_assoc ?_
  refine cw_reg_seq fun K hK => ?_
  simp only [go_sem]
  refine hK _ _ ?_
  clear hK K
  refine cw_seq_k fun K5 hK5 => ?_
  have J6 : ∀ (out_5 : List Int) (i5 : Nat) (t : Slots) (h : Heap), t 5 = .rs i5 0 (List.length out_5) → h.ob i5 = some (1, List.map eI out_5) → i5 < h.nx → halls_rates_j6 out_5 = some r → K5 t h := by
    intro out_5 i5 t h s5 ob_o5 lt_o5 hm0
    refine hK5 _ _ ?_
    unfold halls_rates_j6 at hm0
    refine cw_reg_seq fun K hK => ?_
    simp only [go_sem, s5, ob_o5, lt_o5]
    refine hK _ _ ?_
    clear hK K
    simp only [cw_ret, qseq_ret, qblock_ret, retQ_ret]
    obtain rfl := Option.some.inj hm0
    exact done_w (id := i5) (by simp only [go_sem, List.length_append, List.map_append]) (by simp only [go_sem, ob_o5, lt_o5, List.length_append, List.map_append]) (by first | exact plain_eI | exact plain_eB)
  simp only [cw_block]
  obtain ⟨b7, hl7, hm0⟩ := bind_get hm0
  refine cw_loopM hl7 (fun | (out_5, now_6, at_7, x_20), t, h => ∃ i5 : Nat, t 1 = I comb ∧ t 2 = .fp [.fs 5 (List.map eComb h_.Combs), .fs 3 (List.map eTrain h_.Trains), .fs 3 (List.map eShift h_.Shifts), I h_.Until] 0 ∧ t 5 = .rs i5 0 (List.length out_5) ∧ t 6 = I now_6 ∧ t 7 = I at_7 ∧ t 19 = I ((List.length l2 : Nat) : Int) ∧ t 20 = I x_20 ∧ h.ob i5 = some (1, List.map eI out_5) ∧ i5 < h.nx) ?_ ?_
  · exact ⟨h.nx, s1, (by first | (simp only [go_sem, List.length_append, List.map_append]; done) | rfl), (by first | (simp only [go_sem, List.length_append, List.map_append]; done) | rfl), (by first | (simp only [go_sem, List.length_append, List.map_append]; done) | rfl), (by first | (simp only [go_sem, List.length_append, List.map_append]; done) | rfl), (by first | (simp only [go_sem, List.length_append, List.map_append]; done) | rfl), (by first | (simp only [go_sem, List.length_append, List.map_append]; done) | rfl), (by simp only [go_sem, List.length_append, List.map_append]), (by simp only [go_sem])⟩
  · rintro ⟨out_5, now_6, at_7, x_20⟩ o t h ⟨i5, s1, s2, s5, s6, s7, s19, s20, ob_o5, lt_o5⟩ hm1 hb7
    simp only [halls_rates_L13] at hm1
    rw [x_halls_rates_L13]
    refine cw_reg_seq fun K hK => ?_
    simp only [go_sem, s19, s20, lt_o5]
    refine hK _ _ ?_
    clear hK K
    refine cw_seq_k fun K8 hK8 => ?_
    simp only [go_sem]
    refine ibr_intro (fun hc9 => ?_) (fun hc9 => ?_)
    · rw [if_t hc9] at hm1
      simp only [cw_skip, qblock_normal, qseq_normal]
      refine hK8 _ _ ?_
      refine cw_seq_k fun K10 hK10 => ?_
      have J11 : ∀ (out_5_1 : List Int) (now_6_1 : Int) (at_7_1 : Int) (t : Slots) (h : Heap), t 1 = I comb → t 2 = .fp [.fs 5 (List.map eComb h_.Combs), .fs 3 (List.map eTrain h_.Trains), .fs 3 (List.map eShift h_.Shifts), I h_.Until] 0 → t 5 = .rs i5 0 (List.length out_5_1) → t 6 = I now_6_1 → t 7 = I at_7_1 → t 19 = I ((List.length l2 : Nat) : Int) → t 20 = I x_20 → h.ob i5 = some (1, List.map eI out_5_1) → i5 < h.nx → halls_rates_j11 x_20 out_5_1 now_6_1 at_7_1 = some o → K10 t h := by
        try clear s1 s2 s5 s6 s7 s19 s20 ob_o5 lt_o5
        intro out_5_1 now_6_1 at_7_1 t h s1 s2 s5 s6 s7 s19 s20 ob_o5 lt_o5 hm1
        refine hK10 _ _ ?_
        unfold halls_rates_j11 at hm1
        refine cw_reg_k fun K hK => ?_
        simp only [go_sem, s20, lt_o5]
        refine hK _ _ ?_
        clear hK K
        simp only [qblock_normal, qseq_normal]
        obtain rfl := Option.some.inj hm1
        refine ⟨_, rfl, ?_⟩
        exact ⟨i5, s1, s2, (by first | exact s5 | simp only [go_sem, s5, List.length_append, List.map_append]), s6, s7, s19, (by first | (simp only [go_sem, s20, List.length_append, List.map_append]; done) | rfl), ob_o5, lt_o5⟩
      simp only [cw_block]
      refine cw_reg_seq fun K hK => ?_
      simp only [go_sem, s20, lt_o5]
      refine hK _ _ ?_
      clear hK K
      refine cw_seq_k fun K12 hK12 => ?_
      have J13 : ∀ (now_6_1 : Int) (at_7_1 : Int) (t : Slots) (h : Heap), t 1 = I comb → t 2 = .fp [.fs 5 (List.map eComb h_.Combs), .fs 3 (List.map eTrain h_.Trains), .fs 3 (List.map eShift h_.Shifts), I h_.Until] 0 → t 5 = .rs i5 0 (List.length out_5) → t 6 = I now_6_1 → t 7 = I at_7_1 → t 8 = I x_20 → t 19 = I ((List.length l2 : Nat) : Int) → t 20 = I x_20 → h.ob i5 = some (1, List.map eI out_5) → i5 < h.nx → halls_rates_j13 out_5 x_20 now_6_1 at_7_1 = some o → K12 t h := by
        try clear s1 s2 s5 s6 s7 s19 s20 ob_o5 lt_o5
        intro now_6_1 at_7_1 t h s1 s2 s5 s6 s7 s8 s19 s20 ob_o5 lt_o5 hm1
        refine hK12 _ _ ?_
        unfold halls_rates_j13 at hm1
        obtain ⟨x15, h_x15, hm1⟩ := bind_get hm1
        have h_x150 := get_nn h_x15
        have h_x151 := get_lt h_x15
        refine cw_reg_k fun K hK => ?_
        simp only [go_sem, s5, s6, s8, ob_o5, lt_o5, ielem_get h_x15, irow_get h_x15, h_x150, h_x151]
        refine hK _ _ ?_
        clear hK K
        simp only [qblock_normal, qseq_normal]
        exact J11 (List.set out_5 (Int.toNat x_20) now_6_1) now_6_1 at_7_1 _ _ s1 s2 (by first | exact s5 | simp only [go_sem, s5, List.length_append, List.map_append]) s6 s7 s19 s20 (by simp only [go_sem, ob_o5, lt_o5, List.length_append, List.map_append]) (by simp only [go_sem, lt_o5]) hm1
      simp only [cw_block]
      obtain ⟨b16, hl16, hm1⟩ := bind_get hm1
      refine cw_loopM hl16 (fun | (now_6_1, at_7_1), t, h => t 1 = I comb ∧ t 2 = .fp [.fs 5 (List.map eComb h_.Combs), .fs 3 (List.map eTrain h_.Trains), .fs 3 (List.map eShift h_.Shifts), I h_.Until] 0 ∧ t 5 = .rs i5 0 (List.length out_5) ∧ t 6 = I now_6_1 ∧ t 7 = I at_7_1 ∧ t 8 = I x_20 ∧ t 19 = I ((List.length l2 : Nat) : Int) ∧ t 20 = I x_20 ∧ h.ob i5 = some (1, List.map eI out_5) ∧ i5 < h.nx) ?_ ?_
      · exact ⟨s1, s2, (by first | exact s5 | simp only [go_sem, s5, List.length_append, List.map_append]), s6, s7, (by first | (simp only [go_sem, List.length_append, List.map_append]; done) | rfl), s19, s20, ob_o5, lt_o5⟩
      · try clear s1 s2 s5 s6 s7 s19 s20 ob_o5 lt_o5
        rintro ⟨now_6_1, at_7_1⟩ o t h ⟨s1, s2, s5, s6, s7, s8, s19, s20, ob_o5, lt_o5⟩ hm2 hb16
        simp only [halls_rates_L10] at hm2
        rw [x_halls_rates_L10]
        refine cw_assoc ?_
        obtain ⟨c20, h_c20, hm2⟩ := bind_get hm2
        refine cw_reg_postK (fun t h => t 1 = I comb ∧ t 2 = .fp [.fs 5 (List.map eComb h_.Combs), .fs 3 (List.map eTrain h_.Trains), .fs 3 (List.map eShift h_.Shifts), I h_.Until] 0 ∧ t 5 = .rs i5 0 (List.length out_5) ∧ t 6 = I now_6_1 ∧ t 7 = I at_7_1 ∧ t 8 = I x_20 ∧ t 19 = I ((List.length l2 : Nat) : Int) ∧ t 20 = I x_20 ∧ t 37 = B c20 ∧ h.ob i5 = some (1, List.map eI out_5) ∧ i5 < h.nx) (fun K hK => ?_) ?_
        · simp only [go_sem, s2, s7, s8, lt_o5]
          refine ibr_intro (fun hg21 => ?_) (fun hg21 => ?_)
          · simp only [hg21, Bool.not_true, Bool.not_false, eq_self, if_true, if_false, Bool.true_or, Bool.or_true, Bool.false_or, Bool.or_false, Bool.true_and, Bool.and_true, Bool.false_and, Bool.and_false, Bool.false_eq_true] at h_c20
            obtain ⟨x19, h_x19, h_c20⟩ := bind_get h_c20
            have h_x190 := get_nn h_x19
            have h_x191 := get_lt h_x19
            obtain rfl := Option.some.inj h_c20
            simp only [go_sem, s2, s7, s8, lt_o5, ielem_get h_x19, irow_get h_x19, h_x190, h_x191, hg21]
            exact hK _ _ ⟨s1, s2, (by first | exact s5 | simp only [go_sem, s5, List.length_append, List.map_append]), s6, s7, s8, s19, s20, (by first | (simp only [go_sem, hg21, List.length_append, List.map_append]; done) | rfl), ob_o5, lt_o5⟩
          · simp only [hg21, Bool.not_true, Bool.not_false, eq_self, if_true, if_false, Bool.true_or, Bool.or_true, Bool.false_or, Bool.or_false, Bool.true_and, Bool.and_true, Bool.false_and, Bool.and_false, Bool.false_eq_true] at h_c20
            obtain rfl := Option.some.inj h_c20
            simp only [go_sem, s2, s7, s8, lt_o5, hg21]
            exact hK _ _ ⟨s1, s2, (by first | exact s5 | simp only [go_sem, s5, List.length_append, List.map_append]), s6, s7, s8, s19, s20, (by first | (simp only [go_sem, hg21, List.length_append, List.map_append]; done) | rfl), ob_o5, lt_o5⟩
        · try clear s1 s2 s5 s6 s7 s8 s19 s20 ob_o5 lt_o5
          rintro t h ⟨s1, s2, s5, s6, s7, s8, s19, s20, s37, ob_o5, lt_o5⟩
          refine cw_seq_k fun K22 hK22 => ?_
          simp only [go_sem, s37]
          refine ibr_intro (fun hc23 => ?_) (fun hc23 => ?_)
          · rw [if_t hc23] at hm2
            simp only [cw_skip, qblock_normal, qseq_normal]
            refine hK22 _ _ ?_
            refine cw_seq_k fun K24 hK24 => ?_
            have J25 : ∀ (now_6_2 : Int) (t : Slots) (h : Heap), t 1 = I comb → t 2 = .fp [.fs 5 (List.map eComb h_.Combs), .fs 3 (List.map eTrain h_.Trains), .fs 3 (List.map eShift h_.Shifts), I h_.Until] 0 → t 5 = .rs i5 0 (List.length out_5) → t 6 = I now_6_2 → t 7 = I at_7_1 → t 8 = I x_20 → t 19 = I ((List.length l2 : Nat) : Int) → t 20 = I x_20 → h.ob i5 = some (1, List.map eI out_5) → i5 < h.nx → halls_rates_j25 at_7_1 now_6_2 = some o → K24 t h := by
              try clear s1 s2 s5 s6 s7 s8 s19 s20 s37 ob_o5 lt_o5
              intro now_6_2 t h s1 s2 s5 s6 s7 s8 s19 s20 ob_o5 lt_o5 hm2
              refine hK24 _ _ ?_
              unfold halls_rates_j25 at hm2
              refine cw_reg_k fun K hK => ?_
              simp only [go_sem, s7, lt_o5]
              refine hK _ _ ?_
              clear hK K
              simp only [qblock_normal, qseq_normal]
              obtain rfl := Option.some.inj hm2
              refine ⟨_, rfl, ?_⟩
              exact ⟨s1, s2, (by first | exact s5 | simp only [go_sem, s5, List.length_append, List.map_append]), s6, (by first | (simp only [go_sem, s7, List.length_append, List.map_append]; done) | rfl), s8, s19, s20, ob_o5, lt_o5⟩
            simp only [cw_block]
            obtain ⟨x27, h_x27, hm2⟩ := bind_get hm2
            have h_x270 := get_nn h_x27
            have h_x271 := get_lt h_x27
            refine cw_reg_seq fun K hK => ?_
            simp only [go_sem, s1, s2, s7, lt_o5, ielem_get h_x27, irow_get h_x27, h_x270, h_x271]
            refine hK _ _ ?_
            clear hK K
            simp only [go_sem]
            refine ibr_intro (fun hc28 => ?_) (fun hc28 => ?_)
            · rw [if_t hc28] at hm2
              refine cw_reg_k fun K hK => ?_
              simp only [go_sem, s2, s7, lt_o5, ielem_get h_x27, irow_get h_x27, h_x270, h_x271]
              refine hK _ _ ?_
              clear hK K
              simp only [qblock_normal, qseq_normal]
              exact J25 x27.Rate _ _ s1 s2 (by first | exact s5 | simp only [go_sem, s5, List.length_append, List.map_append]) (by first | (simp only [go_sem, s6, List.length_append, List.map_append]; done) | rfl) s7 s8 s19 s20 ob_o5 lt_o5 hm2
            · rw [if_f hc28] at hm2
              simp only [cw_skip, qblock_normal, qseq_normal]
              exact J25 now_6_1 _ _ s1 s2 (by first | exact s5 | simp only [go_sem, s5, List.length_append, List.map_append]) s6 s7 s8 s19 s20 ob_o5 lt_o5 hm2
          · rw [if_f hc23] at hm2
            simp only [cw_exit, qseq_exit, qblock_same, qblock_ne, qblock_normal, qseq_normal, Nat.reduceEqDiff, not_false_eq_true]
            obtain rfl := Option.some.inj hm2
            obtain rfl := hb16 _ rfl
            try dsimp only at hm1
            exact J13 now_6_1 at_7_1 _ _ s1 s2 (by first | exact s5 | simp only [go_sem, s5, List.length_append, List.map_append]) s6 s7 s8 s19 s20 ob_o5 lt_o5 hm1
    · rw [if_f hc9] at hm1
      simp only [cw_exit, qseq_exit, qblock_same, qblock_ne, qblock_normal, qseq_normal, Nat.reduceEqDiff, not_false_eq_true]
      obtain rfl := Option.some.inj hm1
      obtain rfl := hb7 _ rfl
      try dsimp only at hm0
      exact J6 out_5 i5 _ _ (by first | exact s5 | simp only [go_sem, s5, List.length_append, List.map_append]) ob_o5 lt_o5 hm0

end Go.Nw.HM

namespace Go.Nw.HM
open Go.Nw.Halls
set_option linter.unusedSimpArgs false
set_option linter.unusedVariables false
set_option maxHeartbeats 4000000
variable {O : Orac}

theorem k_halls_span (hf : Has O "newel/halls.span" x_halls_span) : C_halls_span O := by
  intro s low high
  generalize hm0 : halls_span s low high = r
  unfold halls_span at hm0
  refine fn_cw hf rfl (fz_cons (.agg _ (fz_cons (frz_v _) (fz_cons (frz_v _) fz_nil))) (fz_cons (frz_v _) (fz_cons (frz_v _) fz_nil))) (frz_v _) ?_
  refine cw_start (fun t h => t 0 = .agg [I s.Low, I s.High] ∧ t 1 = I low ∧ t 2 = I high) ⟨rfl, rfl, rfl⟩ fun t h ⟨s0, s1, s2⟩ => ?_
  simp only [x_halls_span]
  refine cw_reg_seq fun K hK => ?_
  simp only [go_sem, s0]
  refine hK _ _ ?_
  clear hK K
  refine cw_reg_postK (fun t h => t 6 = B (((decide (low ≤ s.Low)) && (decide (s.Low ≤ s.High))) && (decide (s.High ≤ high)))) (fun K hK => ?_) ?_
  · simp only [go_sem, s1, s2]
    refine ibr_intro (fun hg1 => ?_) (fun hg1 => ?_)
    · simp only [go_sem, s1, s2, hg1]
      refine ibr_intro (fun hg2 => ?_) (fun hg2 => ?_)
      · simp only [go_sem, s1, s2, hg1, hg2]
        exact hK _ _ (by first | (simp only [go_sem, hg1, hg2, List.length_append, List.map_append]; done) | rfl)
      · simp only [go_sem, s1, s2, hg1, hg2]
        exact hK _ _ (by first | (simp only [go_sem, hg1, hg2, List.length_append, List.map_append]; done) | rfl)
    · simp only [go_sem, s1, s2, hg1]
      exact hK _ _ (by first | (simp only [go_sem, hg1, List.length_append, List.map_append]; done) | rfl)
  · rintro t h s6
    simp only [cw_ret, qseq_ret, qblock_ret, retQ_ret]
    obtain rfl := hm0
    exact done_t (by simp only [go_sem, s6, List.length_append, List.map_append]) (frz_v _)

end Go.Nw.HM

namespace Go.Nw.HM
open Go.Nw.Halls
set_option linter.unusedSimpArgs false
set_option linter.unusedVariables false
set_option maxHeartbeats 4000000
variable {O : Orac}

theorem k_l06_Example (hf : Has O "newel/newellaw06.Example" x_l06_Example) : C_l06_Example O := by
  intro _
  generalize hm0 : l06_Example = r
  unfold l06_Example at hm0
  refine fn_cw hf rfl fz_nil (.agg _ (fz_cons (frz_fs fun a _ => fz_eComb a) (fz_cons (frz_fs fun a _ => fz_eTrain a) (fz_cons (frz_fs fun a _ => fz_eShift a) (fz_cons (frz_v _) fz_nil))))) ?_
  refine cw_start (fun t h => True) trivial fun t h _ => ?_
  simp only [x_l06_Example]
  refine cw_reg_seq fun K hK => ?_
  simp only [go_sem]
  refine hK _ _ ?_
  clear hK K
  refine cw_reg_seq fun K hK => ?_
  simp only [go_sem]
  refine hK _ _ ?_
  clear hK K
  simp only [cw_ret, qseq_ret, qblock_ret, retQ_ret]
  obtain rfl := hm0
  exact done_cell (id := h.nx) (m := 4) (cs := [.rs (nxs h.nx) 0 (2), .rs (nxs (nxs (nxs (nxs h.nx)))) 0 2, .v (.slice none 0 0), I 20]) (by simp only [go_sem, List.length_append, List.map_append]) (by simp only [go_sem, List.length_append, List.map_append]) rfl (fz_agg (.cons (fz_rs (f := eComb) (l := ([(Comb.mk 3 12 1 (Span.mk 2 3)), (Comb.mk 2 10 (-1) (Span.mk 1 1))])) (id := (nxs h.nx)) (by simp only [go_sem, List.length_append, List.map_append]) (by first | rfl | simp only [go_sem, List.length_append, List.map_append]) fz_eComb ln_eComb) (.cons (fz_lit (id := (nxs (nxs (nxs (nxs h.nx))))) (sz := 3) (rows := [[I 2, I 4, .rs (nxs (nxs h.nx)) 0 (1)], [I 5, I 5, .rs (nxs (nxs (nxs h.nx))) 0 (2)]]) (by simp only [go_sem]) rfl (.cons (.cons (.refl _ (frz_v _)) (.cons (.refl _ (frz_v _)) (.cons (fz_rs (f := eCrowd) (l := ([(Crowd.mk 0 (Span.mk 6 10))])) (id := (nxs (nxs h.nx))) (by simp only [go_sem, List.length_append, List.map_append]) (by first | rfl | simp only [go_sem, List.length_append, List.map_append]) fz_eCrowd ln_eCrowd) (.nil)))) (.cons (.cons (.refl _ (frz_v _)) (.cons (.refl _ (frz_v _)) (.cons (fz_rs (f := eCrowd) (l := ([(Crowd.mk 0 (Span.mk 0 4)), (Crowd.mk 1 (Span.mk 3 3))])) (id := (nxs (nxs (nxs h.nx)))) (by simp only [go_sem, List.length_append, List.map_append]) (by first | rfl | simp only [go_sem, List.length_append, List.map_append]) fz_eCrowd ln_eCrowd) (.nil)))) (.nil))) (by intro d hd; obtain ⟨x, _, rfl⟩ := List.mem_map.1 hd; exact ln_eTrain x)) (.cons (.nil _) (.cons (.refl _ (frz_v _)) (.nil))))))

end Go.Nw.HM

namespace Go.Nw.HM
open Go.Nw.Halls
set_option linter.unusedSimpArgs false
set_option linter.unusedVariables false
set_option maxHeartbeats 4000000
variable {O : Orac}

theorem k_l06_Far (hf : Has O "newel/newellaw06.Far" x_l06_Far) : C_l06_Far O := by
  intro h_ r hm0
  unfold l06_Far at hm0
  refine fn_cw hf rfl (fz_cons (.agg _ (fz_cons (frz_fs fun a _ => fz_eComb a) (fz_cons (frz_fs fun a _ => fz_eTrain a) (fz_cons (frz_fs fun a _ => fz_eShift a) (fz_cons (frz_v _) fz_nil))))) fz_nil) (frz_v _) ?_
  refine cw_start (fun t h => t 0 = .agg [.fs 5 (List.map eComb h_.Combs), .fs 3 (List.map eTrain h_.Trains), .fs 3 (List.map eShift h_.Shifts), I h_.Until]) rfl fun t h s0 => ?_
  simp only [x_l06_Far]
  refine cw_reg_seq fun K hK => ?_
  simp only [go_sem, s0]
  refine hK _ _ ?_
  clear hK K
  refine cw_assoc ?_
  refine cw_reg_postK (fun t h => t 1 = .fp [.fs 5 (List.map eComb h_.Combs), .fs 3 (List.map eTrain h_.Trains), .fs 3 (List.map eShift h_.Shifts), I h_.Until] 0 ∧ t 29 = B ((((decide (12 < (List.length h_.Combs : Int))) || (decide (20 < (List.length h_.Trains : Int)))) || (decide (40 < (List.length h_.Shifts : Int)))) || ((decide (40 < h_.Until)) && (decide (h_.Until ≤ 100))))) (fun K hK => ?_) ?_
  · simp only [go_sem]
    refine ibr_intro (fun hg1 => ?_) (fun hg1 => ?_)
    · simp only [go_sem, hg1]
      exact hK _ _ ⟨(by first | (simp only [go_sem, hg1, List.length_append, List.map_append]; done) | rfl), (by first | (simp only [go_sem, hg1, List.length_append, List.map_append]; done) | rfl)⟩
    · simp only [go_sem, hg1]
      refine ibr_intro (fun hg2 => ?_) (fun hg2 => ?_)
      · simp only [go_sem, hg1, hg2]
        exact hK _ _ ⟨(by first | (simp only [go_sem, hg1, hg2, List.length_append, List.map_append]; done) | rfl), (by first | (simp only [go_sem, hg1, hg2, List.length_append, List.map_append]; done) | rfl)⟩
      · simp only [go_sem, hg1, hg2]
        refine ibr_intro (fun hg3 => ?_) (fun hg3 => ?_)
        · simp only [go_sem, hg1, hg2, hg3]
          exact hK _ _ ⟨(by first | (simp only [go_sem, hg1, hg2, hg3, List.length_append, List.map_append]; done) | rfl), (by first | (simp only [go_sem, hg1, hg2, hg3, List.length_append, List.map_append]; done) | rfl)⟩
        · simp only [go_sem, hg1, hg2, hg3]
          refine ibr_intro (fun hg4 => ?_) (fun hg4 => ?_)
          · simp only [go_sem, hg1, hg2, hg3, hg4]
            exact hK _ _ ⟨(by first | (simp only [go_sem, hg1, hg2, hg3, hg4, List.length_append, List.map_append]; done) | rfl), (by first | (simp only [go_sem, hg1, hg2, hg3, hg4, List.length_append, List.map_append]; done) | rfl)⟩
          · simp only [go_sem, hg1, hg2, hg3, hg4]
            exact hK _ _ ⟨(by first | (simp only [go_sem, hg1, hg2, hg3, hg4, List.length_append, List.map_append]; done) | rfl), (by first | (simp only [go_sem, hg1, hg2, hg3, hg4, List.length_append, List.map_append]; done) | rfl)⟩
  · rintro t h ⟨s1, s29⟩
    refine cw_seq_k fun K5 hK5 => ?_
    simp only [go_sem, s29]
    refine ibr_intro (fun hc6 => ?_) (fun hc6 => ?_)
    · rw [if_t hc6] at hm0
      refine cw_reg_seq fun K hK => ?_
      simp only [go_sem]
      refine hK _ _ ?_
      clear hK K
      simp only [cw_ret, qseq_ret, qblock_ret, retQ_ret]
      obtain rfl := Option.some.inj hm0
      exact done_t (by simp only [go_sem, List.length_append, List.map_append]) (frz_v _)
    · rw [if_f hc6] at hm0
      simp only [cw_skip, qblock_normal, qseq_normal]
      refine hK5 _ _ ?_
      refine cw_assoc ?_
      refine cw_reg_seq fun K hK => ?_
      simp only [go_sem]
      refine hK _ _ ?_
      clear hK K
      refine cw_seq_k fun K7 hK7 => ?_
      have J8 : ∀ (t : Slots) (h : Heap), l06_Far_j8 = some r → K7 t h := by
        intro t h hm0
        refine hK7 _ _ ?_
        unfold l06_Far_j8 at hm0
        refine cw_reg_seq fun K hK => ?_
        simp only [go_sem]
        refine hK _ _ ?_
        clear hK K
        simp only [cw_ret, qseq_ret, qblock_ret, retQ_ret]
        obtain rfl := Option.some.inj hm0
        exact done_t (by simp only [go_sem, List.length_append, List.map_append]) (frz_v _)
      simp only [cw_block]
      obtain ⟨b9, hl9, hm0⟩ := bind_get hm0
      refine cw_loopM hl9 (fun | i_3, t, h => t 1 = .fp [.fs 5 (List.map eComb h_.Combs), .fs 3 (List.map eTrain h_.Trains), .fs 3 (List.map eShift h_.Shifts), I h_.Until] 0 ∧ t 3 = I i_3) ?_ ?_
      · exact ⟨s1, (by first | (simp only [go_sem, List.length_append, List.map_append]; done) | rfl)⟩
      · rintro i_3 o t h ⟨s1, s3⟩ hm1 hb9
        simp only [l06_Far_L8] at hm1
        rw [x_l06_Far_L8]
        refine cw_assoc ?_
        refine cw_reg_seq fun K hK => ?_
        simp only [go_sem, s1, s3]
        refine hK _ _ ?_
        clear hK K
        refine cw_seq_k fun K10 hK10 => ?_
        simp only [go_sem]
        refine ibr_intro (fun hc11 => ?_) (fun hc11 => ?_)
        · rw [if_t hc11] at hm1
          simp only [cw_skip, qblock_normal, qseq_normal]
          refine hK10 _ _ ?_
          refine cw_seq_k fun K12 hK12 => ?_
          simp only [cw_block]
          obtain ⟨x14, h_x14, hm1⟩ := bind_get hm1
          have h_x140 := get_nn h_x14
          have h_x141 := get_lt h_x14
          refine cw_reg_seq fun K hK => ?_
          simp only [go_sem, s1, s3, ielem_get h_x14, irow_get h_x14, h_x140, h_x141]
          refine hK _ _ ?_
          clear hK K
          simp only [go_sem]
          refine ibr_intro (fun hc15 => ?_) (fun hc15 => ?_)
          · rw [if_t hc15] at hm1
            refine cw_reg_seq fun K hK => ?_
            simp only [go_sem]
            refine hK _ _ ?_
            clear hK K
            simp only [cw_ret, qseq_ret, qblock_ret, retQ_ret]
            obtain rfl := Option.some.inj hm1
            obtain rfl := hb9 _ rfl
            try dsimp only at hm0
            obtain rfl := Option.some.inj hm0
            exact done_t (by simp only [go_sem, List.length_append, List.map_append]) (frz_v _)
          · rw [if_f hc15] at hm1
            simp only [cw_skip, qblock_normal, qseq_normal]
            refine hK12 _ _ ?_
            refine cw_reg_k fun K hK => ?_
            simp only [go_sem, s3]
            refine hK _ _ ?_
            clear hK K
            simp only [qblock_normal, qseq_normal]
            obtain rfl := Option.some.inj hm1
            refine ⟨_, rfl, ?_⟩
            exact ⟨s1, (by first | (simp only [go_sem, s3, List.length_append, List.map_append]; done) | rfl)⟩
        · rw [if_f hc11] at hm1
          simp only [cw_exit, qseq_exit, qblock_same, qblock_ne, qblock_normal, qseq_normal, Nat.reduceEqDiff, not_false_eq_true]
          obtain rfl := Option.some.inj hm1
          obtain rfl := hb9 _ rfl
          try dsimp only at hm0
          exact J8  _ _  hm0

end Go.Nw.HM

namespace Go.Nw.HM
open Go.Nw.Halls
set_option linter.unusedSimpArgs false
set_option linter.unusedVariables false
set_option maxHeartbeats 4000000
variable {O : Orac}

theorem k_l06_HallsNeed (hf : Has O "newel/newellaw06.HallsNeed" x_l06_HallsNeed) (k_l06_Far : C_l06_Far O) (k_r06_Check : C_r06_Check O) (k_l06_works : C_l06_works O) (k_halls_Need : C_halls_Need O) (k_r06_At : C_r06_At O) (k_l06_keeps : C_l06_keeps O) : C_l06_HallsNeed O := by
  intro h_ comb rate r hm0
  unfold l06_HallsNeed at hm0
  refine fn_cw hf rfl (fz_cons (.agg _ (fz_cons (frz_fs fun a _ => fz_eComb a) (fz_cons (frz_fs fun a _ => fz_eTrain a) (fz_cons (frz_fs fun a _ => fz_eShift a) (fz_cons (frz_v _) fz_nil))))) (fz_cons (frz_v _) (fz_cons (frz_v _) fz_nil))) (frz_v _) ?_
  refine cw_start (fun t h => t 0 = .agg [.fs 5 (List.map eComb h_.Combs), .fs 3 (List.map eTrain h_.Trains), .fs 3 (List.map eShift h_.Shifts), I h_.Until] ∧ t 1 = I comb ∧ t 2 = I rate) ⟨rfl, rfl, rfl⟩ fun t h ⟨s0, s1, s2⟩ => ?_
  simp only [x_l06_HallsNeed]
  refine cw_reg_seq fun K hK => ?_
  simp only [go_sem, s0]
  refine hK _ _ ?_
  clear hK K
  refine cw_assoc ?_
  obtain ⟨y4, h_y4, hm0⟩ := bind_get hm0
  obtain ⟨c6, h_c6, hm0⟩ := bind_get hm0
  refine cw_reg_postK (fun t h => t 1 = I comb ∧ t 2 = I rate ∧ t 3 = .fp [.fs 5 (List.map eComb h_.Combs), .fs 3 (List.map eTrain h_.Trains), .fs 3 (List.map eShift h_.Shifts), I h_.Until] 0 ∧ t 30 = B ((c6 || (decide (comb < 0))) || (decide ((List.length h_.Combs : Int) ≤ comb)))) (fun K hK => ?_) ?_
  · simp only [go_sem, s1]
    refine icall_fn (k_l06_Far h_ _ h_y4) ?_
    simp only [go_sem, s1]
    refine ibr_intro (fun hg7 => ?_) (fun hg7 => ?_)
    · simp only [hg7, Bool.not_true, Bool.not_false, eq_self, if_true, if_false, Bool.true_or, Bool.or_true, Bool.false_or, Bool.or_false, Bool.true_and, Bool.and_true, Bool.false_and, Bool.and_false, Bool.false_eq_true] at h_c6
      obtain rfl := Option.some.inj h_c6
      simp only [go_sem, s1, hg7]
      exact hK _ _ ⟨s1, s2, (by first | (simp only [go_sem, hg7, List.length_append, List.map_append]; done) | rfl), (by first | (simp only [go_sem, hg7, List.length_append, List.map_append]; done) | rfl)⟩
    · simp only [hg7, Bool.not_true, Bool.not_false, eq_self, if_true, if_false, Bool.true_or, Bool.or_true, Bool.false_or, Bool.or_false, Bool.true_and, Bool.and_true, Bool.false_and, Bool.and_false, Bool.false_eq_true] at h_c6
      obtain ⟨y5, h_y5, h_c6⟩ := bind_get h_c6
      obtain rfl := Option.some.inj h_c6
      simp only [go_sem, s1, hg7]
      refine icall_fn (k_r06_Check h_ _ h_y5) ?_
      simp only [go_sem, s1, hg7]
      refine ibr_intro (fun hg8 => ?_) (fun hg8 => ?_)
      · simp only [go_sem, s1, hg7, hg8]
        exact hK _ _ ⟨s1, s2, (by first | (simp only [go_sem, hg7, hg8, List.length_append, List.map_append]; done) | rfl), (by first | (simp only [go_sem, hg7, hg8, List.length_append, List.map_append]; done) | rfl)⟩
      · simp only [go_sem, s1, hg7, hg8]
        refine ibr_intro (fun hg9 => ?_) (fun hg9 => ?_)
        · simp only [go_sem, s1, hg7, hg8, hg9]
          exact hK _ _ ⟨s1, s2, (by first | (simp only [go_sem, hg7, hg8, hg9, List.length_append, List.map_append]; done) | rfl), (by first | (simp only [go_sem, hg7, hg8, hg9, List.length_append, List.map_append]; done) | rfl)⟩
        · simp only [go_sem, s1, hg7, hg8, hg9]
          exact hK _ _ ⟨s1, s2, (by first | (simp only [go_sem, hg7, hg8, hg9, List.length_append, List.map_append]; done) | rfl), (by first | (simp only [go_sem, hg7, hg8, hg9, List.length_append, List.map_append]; done) | rfl)⟩
  · rintro t h ⟨s1, s2, s3, s30⟩
    refine cw_seq_k fun K10 hK10 => ?_
    simp only [go_sem, s30]
    refine ibr_intro (fun hc11 => ?_) (fun hc11 => ?_)
    · rw [if_t hc11] at hm0
      obtain ⟨y13, h_y13, hm0⟩ := bind_get hm0
      refine cw_reg_seq fun K hK => ?_
      simp only [go_sem]
      refine icall_fn (k_l06_works  _ h_y13) ?_
      simp only [go_sem]
      refine hK _ _ ?_
      clear hK K
      simp only [cw_ret, qseq_ret, qblock_ret, retQ_ret]
      obtain rfl := Option.some.inj hm0
      exact done_t (by simp only [go_sem, List.length_append, List.map_append]) (frz_v _)
    · rw [if_f hc11] at hm0
      simp only [cw_skip, qblock_normal, qseq_normal]
      refine hK10 _ _ ?_
      obtain ⟨y15, h_y15, hm0⟩ := bind_get hm0
      refine cw_reg_seq fun K hK => ?_
      simp only [go_sem, s1, s3]
      refine icall_fn (k_halls_Need h_ comb _ h_y15) ?_
      simp only [go_sem, s1, s3]
      refine hK _ _ ?_
      clear hK K
      refine cw_assoc ?_
      refine cw_reg_seq fun K hK => ?_
      simp only [go_sem]
      refine hK _ _ ?_
      clear hK K
      refine cw_seq_k fun K16 hK16 => ?_
      simp only [go_sem]
      refine ibr_intro (fun hc17 => ?_) (fun hc17 => ?_)
      · rw [if_t hc17] at hm0
        refine cw_assoc ?_
        refine cw_reg_postK (fun t h => t 1 = I comb ∧ t 2 = I rate ∧ t 3 = .fp [.fs 5 (List.map eComb h_.Combs), .fs 3 (List.map eTrain h_.Trains), .fs 3 (List.map eShift h_.Shifts), I h_.Until] 0 ∧ t 45 = B ((decide (rate < 0)) || (decide (1000 < rate)))) (fun K hK => ?_) ?_
        · simp only [go_sem, s2]
          refine ibr_intro (fun hg18 => ?_) (fun hg18 => ?_)
          · simp only [go_sem, s2, hg18]
            exact hK _ _ ⟨s1, s2, s3, (by first | (simp only [go_sem, hg18, List.length_append, List.map_append]; done) | rfl)⟩
          · simp only [go_sem, s2, hg18]
            exact hK _ _ ⟨s1, s2, s3, (by first | (simp only [go_sem, hg18, List.length_append, List.map_append]; done) | rfl)⟩
        · rintro t h ⟨s1, s2, s3, s45⟩
          refine cw_seq_k fun K19 hK19 => ?_
          simp only [go_sem, s45]
          refine ibr_intro (fun hc20 => ?_) (fun hc20 => ?_)
          · rw [if_t hc20] at hm0
            obtain ⟨y22, h_y22, hm0⟩ := bind_get hm0
            refine cw_reg_seq fun K hK => ?_
            simp only [go_sem]
            refine icall_fn (k_l06_works  _ h_y22) ?_
            simp only [go_sem]
            refine hK _ _ ?_
            clear hK K
            simp only [cw_ret, qseq_ret, qblock_ret, retQ_ret]
            obtain rfl := Option.some.inj hm0
            exact done_t (by simp only [go_sem, List.length_append, List.map_append]) (frz_v _)
          · rw [if_f hc20] at hm0
            simp only [cw_skip, qblock_normal, qseq_normal]
            refine hK19 _ _ ?_
            obtain ⟨y25, h_y25, hm0⟩ := bind_get hm0
            obtain ⟨y26, h_y26, hm0⟩ := bind_get hm0
            refine cw_reg_seq fun K hK => ?_
            simp only [go_sem, s1, s2, s3]
            refine icall_fn (k_r06_At h_ comb rate _ h_y25) ?_
            simp only [go_sem, s1, s2, s3]
            refine icall_fn (k_l06_keeps y25 comb _ h_y26) ?_
            simp only [go_sem, s1, s2, s3]
            refine hK _ _ ?_
            clear hK K
            obtain ⟨c30, h_c30, hm0⟩ := bind_get hm0
            refine cw_reg_postK (fun t h => t 6 = B c30) (fun K hK => ?_) ?_
            · simp only [go_sem]
              refine ibr_intro (fun hg31 => ?_) (fun hg31 => ?_)
              · simp only [go_sem, hg31]
                refine ibr_intro (fun hg32 => ?_) (fun hg32 => ?_)
                · simp only [hg31, hg32, Bool.not_true, Bool.not_false, eq_self, if_true, if_false, Bool.true_or, Bool.or_true, Bool.false_or, Bool.or_false, Bool.true_and, Bool.and_true, Bool.false_and, Bool.and_false, Bool.false_eq_true] at h_c30
                  obtain ⟨y29, h_y29, h_c30⟩ := bind_get h_c30
                  obtain rfl := Option.some.inj h_c30
                  simp only [go_sem, hg31, hg32]
                  refine icall_fn (k_l06_works  _ h_y29) ?_
                  simp only [go_sem, hg31, hg32]
                  exact hK _ _ (by first | (simp only [go_sem, hg31, hg32, List.length_append, List.map_append]; done) | rfl)
                · simp only [hg31, hg32, Bool.not_true, Bool.not_false, eq_self, if_true, if_false, Bool.true_or, Bool.or_true, Bool.false_or, Bool.or_false, Bool.true_and, Bool.and_true, Bool.false_and, Bool.and_false, Bool.false_eq_true] at h_c30
                  obtain rfl := Option.some.inj h_c30
                  simp only [go_sem, hg31, hg32]
                  exact hK _ _ (by first | (simp only [go_sem, hg31, hg32, List.length_append, List.map_append]; done) | rfl)
              · simp only [hg31, Bool.not_true, Bool.not_false, eq_self, if_true, if_false, Bool.true_or, Bool.or_true, Bool.false_or, Bool.or_false, Bool.true_and, Bool.and_true, Bool.false_and, Bool.and_false, Bool.false_eq_true] at h_c30
                obtain rfl := Option.some.inj h_c30
                simp only [go_sem, hg31]
                exact hK _ _ (by first | (simp only [go_sem, hg31, List.length_append, List.map_append]; done) | rfl)
            · rintro t h s6
              simp only [cw_ret, qseq_ret, qblock_ret, retQ_ret]
              obtain rfl := Option.some.inj hm0
              exact done_t (by simp only [go_sem, s6, List.length_append, List.map_append]) (frz_v _)
      · rw [if_f hc17] at hm0
        simp only [cw_skip, qblock_normal, qseq_normal]
        refine hK16 _ _ ?_
        refine cw_assoc ?_
        refine cw_reg_postK (fun t h => t 1 = I comb ∧ t 3 = .fp [.fs 5 (List.map eComb h_.Combs), .fs 3 (List.map eTrain h_.Trains), .fs 3 (List.map eShift h_.Shifts), I h_.Until] 0 ∧ t 7 = I y15.1 ∧ t 73 = B (((decide (¬y15.2 = 0)) || (decide (y15.1 < 0))) || (decide (1000 < y15.1)))) (fun K hK => ?_) ?_
        · simp only [go_sem]
          refine ibr_intro (fun hg33 => ?_) (fun hg33 => ?_)
          · simp only [go_sem, hg33]
            exact hK _ _ ⟨s1, s3, (by first | (simp only [go_sem, hg33, List.length_append, List.map_append]; done) | rfl), (by first | (simp only [go_sem, hg33, List.length_append, List.map_append]; done) | rfl)⟩
          · simp only [go_sem, hg33]
            refine ibr_intro (fun hg34 => ?_) (fun hg34 => ?_)
            · simp only [go_sem, hg33, hg34]
              exact hK _ _ ⟨s1, s3, (by first | (simp only [go_sem, hg33, hg34, List.length_append, List.map_append]; done) | rfl), (by first | (simp only [go_sem, hg33, hg34, List.length_append, List.map_append]; done) | rfl)⟩
            · simp only [go_sem, hg33, hg34]
              exact hK _ _ ⟨s1, s3, (by first | (simp only [go_sem, hg33, hg34, List.length_append, List.map_append]; done) | rfl), (by first | (simp only [go_sem, hg33, hg34, List.length_append, List.map_append]; done) | rfl)⟩
        · rintro t h ⟨s1, s3, s7, s73⟩
          refine cw_seq_k fun K35 hK35 => ?_
          simp only [go_sem, s73]
          refine ibr_intro (fun hc36 => ?_) (fun hc36 => ?_)
          · rw [if_t hc36] at hm0
            refine cw_reg_seq fun K hK => ?_
            simp only [go_sem]
            refine hK _ _ ?_
            clear hK K
            simp only [cw_ret, qseq_ret, qblock_ret, retQ_ret]
            obtain rfl := Option.some.inj hm0
            exact done_t (by simp only [go_sem, List.length_append, List.map_append]) (frz_v _)
          · rw [if_f hc36] at hm0
            simp only [cw_skip, qblock_normal, qseq_normal]
            refine hK35 _ _ ?_
            obtain ⟨y39, h_y39, hm0⟩ := bind_get hm0
            obtain ⟨y40, h_y40, hm0⟩ := bind_get hm0
            refine cw_reg_seq fun K hK => ?_
            simp only [go_sem, s1, s3, s7]
            refine icall_fn (k_r06_At h_ comb y15.1 _ h_y39) ?_
            simp only [go_sem, s1, s3, s7]
            refine icall_fn (k_l06_keeps y39 comb _ h_y40) ?_
            simp only [go_sem, s1, s3, s7]
            refine hK _ _ ?_
            clear hK K
            refine cw_assoc ?_
            refine cw_reg_postK (fun t h => t 1 = I comb ∧ t 3 = .fp [.fs 5 (List.map eComb h_.Combs), .fs 3 (List.map eTrain h_.Trains), .fs 3 (List.map eShift h_.Shifts), I h_.Until] 0 ∧ t 7 = I y15.1 ∧ t 88 = B ((!y40.1) || (!y40.2))) (fun K hK => ?_) ?_
            · simp only [go_sem]
              refine ibr_intro (fun hg41 => ?_) (fun hg41 => ?_)
              · simp only [go_sem, hg41]
                exact hK _ _ ⟨s1, s3, s7, (by first | (simp only [go_sem, hg41, List.length_append, List.map_append]; done) | rfl)⟩
              · simp only [go_sem, hg41]
                exact hK _ _ ⟨s1, s3, s7, (by first | (simp only [go_sem, hg41, List.length_append, List.map_append]; done) | rfl)⟩
            · rintro t h ⟨s1, s3, s7, s88⟩
              refine cw_seq_k fun K42 hK42 => ?_
              simp only [go_sem, s88]
              refine ibr_intro (fun hc43 => ?_) (fun hc43 => ?_)
              · rw [if_t hc43] at hm0
                refine cw_reg_seq fun K hK => ?_
                simp only [go_sem]
                refine hK _ _ ?_
                clear hK K
                simp only [cw_ret, qseq_ret, qblock_ret, retQ_ret]
                obtain rfl := Option.some.inj hm0
                exact done_t (by simp only [go_sem, List.length_append, List.map_append]) (frz_v _)
              · rw [if_f hc43] at hm0
                simp only [cw_skip, qblock_normal, qseq_normal]
                refine hK42 _ _ ?_
                refine cw_assoc ?_
                refine cw_reg_seq fun K hK => ?_
                simp only [go_sem, s7]
                refine hK _ _ ?_
                clear hK K
                refine cw_seq_k fun K44 hK44 => ?_
                simp only [go_sem]
                refine ibr_intro (fun hc45 => ?_) (fun hc45 => ?_)
                · rw [if_t hc45] at hm0
                  obtain ⟨y47, h_y47, hm0⟩ := bind_get hm0
                  refine cw_reg_seq fun K hK => ?_
                  simp only [go_sem]
                  refine icall_fn (k_l06_works  _ h_y47) ?_
                  simp only [go_sem]
                  refine hK _ _ ?_
                  clear hK K
                  simp only [cw_ret, qseq_ret, qblock_ret, retQ_ret]
                  obtain rfl := Option.some.inj hm0
                  exact done_t (by simp only [go_sem, List.length_append, List.map_append]) (frz_v _)
                · rw [if_f hc45] at hm0
                  simp only [cw_skip, qblock_normal, qseq_normal]
                  refine hK44 _ _ ?_
                  obtain ⟨y50, h_y50, hm0⟩ := bind_get hm0
                  obtain ⟨y51, h_y51, hm0⟩ := bind_get hm0
                  refine cw_reg_seq fun K hK => ?_
                  simp only [go_sem, s1, s3, s7]
                  refine icall_fn (k_r06_At h_ comb (wr (y15.1 - 1)) _ h_y50) ?_
                  simp only [go_sem, s1, s3, s7]
                  refine icall_fn (k_l06_keeps y50 comb _ h_y51) ?_
                  simp only [go_sem, s1, s3, s7]
                  refine hK _ _ ?_
                  clear hK K
                  obtain ⟨c55, h_c55, hm0⟩ := bind_get hm0
                  refine cw_reg_postK (fun t h => t 6 = B c55) (fun K hK => ?_) ?_
                  · simp only [go_sem]
                    refine ibr_intro (fun hg56 => ?_) (fun hg56 => ?_)
                    · simp only [go_sem, hg56]
                      refine ibr_intro (fun hg57 => ?_) (fun hg57 => ?_)
                      · simp only [hg56, hg57, Bool.not_true, Bool.not_false, eq_self, if_true, if_false, Bool.true_or, Bool.or_true, Bool.false_or, Bool.or_false, Bool.true_and, Bool.and_true, Bool.false_and, Bool.and_false, Bool.false_eq_true] at h_c55
                        obtain ⟨y54, h_y54, h_c55⟩ := bind_get h_c55
                        obtain rfl := Option.some.inj h_c55
                        simp only [go_sem, hg56, hg57]
                        refine icall_fn (k_l06_works  _ h_y54) ?_
                        simp only [go_sem, hg56, hg57]
                        exact hK _ _ (by first | (simp only [go_sem, hg56, hg57, List.length_append, List.map_append]; done) | rfl)
                      · simp only [hg56, hg57, Bool.not_true, Bool.not_false, eq_self, if_true, if_false, Bool.true_or, Bool.or_true, Bool.false_or, Bool.or_false, Bool.true_and, Bool.and_true, Bool.false_and, Bool.and_false, Bool.false_eq_true] at h_c55
                        obtain rfl := Option.some.inj h_c55
                        simp only [go_sem, hg56, hg57]
                        exact hK _ _ (by first | (simp only [go_sem, hg56, hg57, List.length_append, List.map_append]; done) | rfl)
                    · simp only [hg56, Bool.not_true, Bool.not_false, eq_self, if_true, if_false, Bool.true_or, Bool.or_true, Bool.false_or, Bool.or_false, Bool.true_and, Bool.and_true, Bool.false_and, Bool.and_false, Bool.false_eq_true] at h_c55
                      obtain rfl := Option.some.inj h_c55
                      simp only [go_sem, hg56]
                      exact hK _ _ (by first | (simp only [go_sem, hg56, List.length_append, List.map_append]; done) | rfl)
                  · rintro t h s6
                    simp only [cw_ret, qseq_ret, qblock_ret, retQ_ret]
                    obtain rfl := Option.some.inj hm0
                    exact done_t (by simp only [go_sem, s6, List.length_append, List.map_append]) (frz_v _)

end Go.Nw.HM

namespace Go.Nw.HM
open Go.Nw.Halls
set_option linter.unusedSimpArgs false
set_option linter.unusedVariables false
set_option maxHeartbeats 4000000
variable {O : Orac}

theorem k_l06_keeps (hf : Has O "newel/newellaw06.keeps" x_l06_keeps) (k_halls_Most : C_halls_Most O) : C_l06_keeps O := by
  intro h_ comb r hm0
  unfold l06_keeps at hm0
  refine fn_cw hf rfl (fz_cons (.agg _ (fz_cons (frz_fs fun a _ => fz_eComb a) (fz_cons (frz_fs fun a _ => fz_eTrain a) (fz_cons (frz_fs fun a _ => fz_eShift a) (fz_cons (frz_v _) fz_nil))))) (fz_cons (frz_v _) fz_nil)) (.tup _ (fz_cons (frz_v _) (fz_cons (frz_v _) fz_nil))) ?_
  refine cw_start (fun t h => t 0 = .agg [.fs 5 (List.map eComb h_.Combs), .fs 3 (List.map eTrain h_.Trains), .fs 3 (List.map eShift h_.Shifts), I h_.Until] ∧ t 1 = I comb) ⟨rfl, rfl⟩ fun t h ⟨s0, s1⟩ => ?_
  simp only [x_l06_keeps]
  refine cw_reg_seq fun K hK => ?_
  simp only [go_sem, s0]
  refine hK _ _ ?_
  clear hK K
  obtain ⟨y2, h_y2, hm0⟩ := bind_get hm0
  refine cw_reg_seq fun K hK => ?_
  simp only [go_sem, s1]
  refine icall_fn (k_halls_Most h_ comb _ h_y2) ?_
  simp only [go_sem, s1]
  refine hK _ _ ?_
  clear hK K
  refine cw_assoc ?_
  refine cw_reg_seq fun K hK => ?_
  simp only [go_sem]
  refine hK _ _ ?_
  clear hK K
  refine cw_seq_k fun K3 hK3 => ?_
  simp only [go_sem]
  refine ibr_intro (fun hc4 => ?_) (fun hc4 => ?_)
  · rw [if_t hc4] at hm0
    refine cw_reg_seq fun K hK => ?_
    simp only [go_sem]
    refine hK _ _ ?_
    clear hK K
    simp only [cw_ret, qseq_ret, qblock_ret, retQ_ret]
    obtain rfl := Option.some.inj hm0
    exact done_t2 (by simp only [go_sem, List.length_append, List.map_append]) (by simp only [go_sem, List.length_append, List.map_append]) (frz_v _) (frz_v _)
  · rw [if_f hc4] at hm0
    simp only [cw_skip, qblock_normal, qseq_normal]
    refine hK3 _ _ ?_
    refine cw_assoc ?_
    refine cw_reg_seq fun K hK => ?_
    simp only [go_sem]
    refine hK _ _ ?_
    clear hK K
    refine cw_seq_k fun K5 hK5 => ?_
    have J6 : ∀ (t : Slots) (h : Heap), l06_keeps_j6 = some r → K5 t h := by
      intro t h hm0
      refine hK5 _ _ ?_
      unfold l06_keeps_j6 at hm0
      refine cw_reg_seq fun K hK => ?_
      simp only [go_sem]
      refine hK _ _ ?_
      clear hK K
      simp only [cw_ret, qseq_ret, qblock_ret, retQ_ret]
      obtain rfl := Option.some.inj hm0
      exact done_t2 (by simp only [go_sem, List.length_append, List.map_append]) (by simp only [go_sem, List.length_append, List.map_append]) (frz_v _) (frz_v _)
    simp only [cw_block]
    obtain ⟨b7, hl7, hm0⟩ := bind_get hm0
    refine cw_loopM hl7 (fun | t_8, t, h => t 1 = I comb ∧ t 2 = .fp [.fs 5 (List.map eComb h_.Combs), .fs 3 (List.map eTrain h_.Trains), .fs 3 (List.map eShift h_.Shifts), I h_.Until] 0 ∧ t 6 = .fs 1 (List.map eI y2.1) ∧ t 8 = I t_8) ?_ ?_
    · exact ⟨s1, (by first | (simp only [go_sem, List.length_append, List.map_append]; done) | rfl), (by first | (simp only [go_sem, List.length_append, List.map_append]; done) | rfl), (by first | (simp only [go_sem, List.length_append, List.map_append]; done) | rfl)⟩
    · rintro t_8 o t h ⟨s1, s2, s6, s8⟩ hm1 hb7
      simp only [l06_keeps_L9] at hm1
      rw [x_l06_keeps_L9]
      refine cw_assoc ?_
      refine cw_reg_seq fun K hK => ?_
      simp only [go_sem, s6, s8]
      refine hK _ _ ?_
      clear hK K
      refine cw_seq_k fun K8 hK8 => ?_
      simp only [go_sem]
      refine ibr_intro (fun hc9 => ?_) (fun hc9 => ?_)
      · rw [if_t hc9] at hm1
        simp only [cw_skip, qblock_normal, qseq_normal]
        refine hK8 _ _ ?_
        refine cw_seq_k fun K10 hK10 => ?_
        simp only [cw_block]
        obtain ⟨x13, h_x13, hm1⟩ := bind_get hm1
        have h_x130 := get_nn h_x13
        have h_x131 := get_lt h_x13
        obtain ⟨x14, h_x14, hm1⟩ := bind_get hm1
        have h_x140 := get_nn h_x14
        have h_x141 := get_lt h_x14
        refine cw_reg_seq fun K hK => ?_
        simp only [go_sem, s1, s2, s6, s8, ielem_get h_x13, irow_get h_x13, h_x130, h_x131, ielem_get h_x14, irow_get h_x14, h_x140, h_x141]
        refine hK _ _ ?_
        clear hK K
        simp only [go_sem]
        refine ibr_intro (fun hc15 => ?_) (fun hc15 => ?_)
        · rw [if_t hc15] at hm1
          refine cw_reg_seq fun K hK => ?_
          simp only [go_sem]
          refine hK _ _ ?_
          clear hK K
          simp only [cw_ret, qseq_ret, qblock_ret, retQ_ret]
          obtain rfl := Option.some.inj hm1
          obtain rfl := hb7 _ rfl
          try dsimp only at hm0
          obtain rfl := Option.some.inj hm0
          exact done_t2 (by simp only [go_sem, List.length_append, List.map_append]) (by simp only [go_sem, List.length_append, List.map_append]) (frz_v _) (frz_v _)
        · rw [if_f hc15] at hm1
          simp only [cw_skip, qblock_normal, qseq_normal]
          refine hK10 _ _ ?_
          refine cw_reg_k fun K hK => ?_
          simp only [go_sem, s8]
          refine hK _ _ ?_
          clear hK K
          simp only [qblock_normal, qseq_normal]
          obtain rfl := Option.some.inj hm1
          refine ⟨_, rfl, ?_⟩
          exact ⟨s1, s2, s6, (by first | (simp only [go_sem, s8, List.length_append, List.map_append]; done) | rfl)⟩
      · rw [if_f hc9] at hm1
        simp only [cw_exit, qseq_exit, qblock_same, qblock_ne, qblock_normal, qseq_normal, Nat.reduceEqDiff, not_false_eq_true]
        obtain rfl := Option.some.inj hm1
        obtain rfl := hb7 _ rfl
        try dsimp only at hm0
        exact J6  _ _  hm0

end Go.Nw.HM

namespace Go.Nw.HM
open Go.Nw.Halls
set_option linter.unusedSimpArgs false
set_option linter.unusedVariables false
set_option maxHeartbeats 4000000
variable {O : Orac}

theorem k_l06_works (hf : Has O "newel/newellaw06.works" x_l06_works) (k_l06_Example : C_l06_Example O) (k_halls_Guard : C_halls_Guard O) (k_halls_Over : C_halls_Over O) : C_l06_works O := by
  intro r hm0
  unfold l06_works at hm0
  refine fn_cw hf rfl fz_nil (frz_v _) ?_
  refine cw_start (fun t h => True) trivial fun t h _ => ?_
  simp only [x_l06_works]
  refine cw_reg_seq fun K hK => ?_
  simp only [go_sem]
  refine hK _ _ ?_
  clear hK K
  obtain ⟨y2, h_y2, hm0⟩ := bind_get hm0
  refine cw_reg_seq fun K hK => ?_
  simp only [go_sem]
  refine icall_fn (k_l06_Example ()) ?_
  simp only [go_sem]
  refine icall_fn (k_halls_Guard l06_Example 0 5 _ h_y2) ?_
  simp only [go_sem]
  refine hK _ _ ?_
  clear hK K
  obtain ⟨y4, h_y4, hm0⟩ := bind_get hm0
  refine cw_reg_seq fun K hK => ?_
  simp only [go_sem]
  refine icall_fn (k_l06_Example ()) ?_
  simp only [go_sem]
  refine icall_fn (k_halls_Over l06_Example _ h_y4) ?_
  simp only [go_sem]
  refine hK _ _ ?_
  clear hK K
  obtain ⟨c8, h_c8, hm0⟩ := bind_get hm0
  refine cw_reg_postK (fun t h => t 0 = B c8) (fun K hK => ?_) ?_
  · simp only [go_sem]
    refine ibr_intro (fun hg9 => ?_) (fun hg9 => ?_)
    · simp only [go_sem, hg9]
      refine ibr_intro (fun hg10 => ?_) (fun hg10 => ?_)
      · simp only [go_sem, hg9, hg10]
        refine ibr_intro (fun hg11 => ?_) (fun hg11 => ?_)
        · simp only [go_sem, hg9, hg10, hg11]
          refine ibr_intro (fun hg12 => ?_) (fun hg12 => ?_)
          · simp only [hg9, hg10, hg11, hg12, Bool.not_true, Bool.not_false, eq_self, if_true, if_false, Bool.true_or, Bool.or_true, Bool.false_or, Bool.or_false, Bool.true_and, Bool.and_true, Bool.false_and, Bool.and_false, Bool.false_eq_true] at h_c8
            obtain ⟨x7, h_x7, h_c8⟩ := bind_get h_c8
            have h_x70 := get_nn h_x7
            have h_x71 := get_lt h_x7
            obtain rfl := Option.some.inj h_c8
            simp only [go_sem, ielem_get h_x7, irow_get h_x7, h_x70, h_x71, hg9, hg10, hg11, hg12]
            exact hK _ _ (by first | (simp only [go_sem, hg9, hg10, hg11, hg12, List.length_append, List.map_append]; done) | rfl)
          · simp only [hg9, hg10, hg11, hg12, Bool.not_true, Bool.not_false, eq_self, if_true, if_false, Bool.true_or, Bool.or_true, Bool.false_or, Bool.or_false, Bool.true_and, Bool.and_true, Bool.false_and, Bool.and_false, Bool.false_eq_true] at h_c8
            obtain rfl := Option.some.inj h_c8
            simp only [go_sem, hg9, hg10, hg11, hg12]
            exact hK _ _ (by first | (simp only [go_sem, hg9, hg10, hg11, hg12, List.length_append, List.map_append]; done) | rfl)
        · simp only [hg9, hg10, hg11, Bool.not_true, Bool.not_false, eq_self, if_true, if_false, Bool.true_or, Bool.or_true, Bool.false_or, Bool.or_false, Bool.true_and, Bool.and_true, Bool.false_and, Bool.and_false, Bool.false_eq_true] at h_c8
          obtain rfl := Option.some.inj h_c8
          simp only [go_sem, hg9, hg10, hg11]
          exact hK _ _ (by first | (simp only [go_sem, hg9, hg10, hg11, List.length_append, List.map_append]; done) | rfl)
      · simp only [hg9, hg10, Bool.not_true, Bool.not_false, eq_self, if_true, if_false, Bool.true_or, Bool.or_true, Bool.false_or, Bool.or_false, Bool.true_and, Bool.and_true, Bool.false_and, Bool.and_false, Bool.false_eq_true] at h_c8
        obtain rfl := Option.some.inj h_c8
        simp only [go_sem, hg9, hg10]
        exact hK _ _ (by first | (simp only [go_sem, hg9, hg10, List.length_append, List.map_append]; done) | rfl)
    · simp only [hg9, Bool.not_true, Bool.not_false, eq_self, if_true, if_false, Bool.true_or, Bool.or_true, Bool.false_or, Bool.or_false, Bool.true_and, Bool.and_true, Bool.false_and, Bool.and_false, Bool.false_eq_true] at h_c8
      obtain rfl := Option.some.inj h_c8
      simp only [go_sem, hg9]
      exact hK _ _ (by first | (simp only [go_sem, hg9, List.length_append, List.map_append]; done) | rfl)
  · rintro t h s0
    simp only [cw_ret, qseq_ret, qblock_ret, retQ_ret]
    obtain rfl := Option.some.inj hm0
    exact done_t (by simp only [go_sem, s0, List.length_append, List.map_append]) (frz_v _)

end Go.Nw.HM

namespace Go.Nw.HM
open Go.Nw.Halls
set_option linter.unusedSimpArgs false
set_option linter.unusedVariables false
set_option maxHeartbeats 4000000
variable {O : Orac}

theorem k_r06_within (hf : Has O "newel/newelref06.within" x_r06_within) : C_r06_within O := by
  intro n low high
  generalize hm0 : r06_within n low high = r
  unfold r06_within at hm0
  refine fn_cw hf rfl (fz_cons (frz_v _) (fz_cons (frz_v _) (fz_cons (frz_v _) fz_nil))) (frz_v _) ?_
  refine cw_start (fun t h => t 0 = I n ∧ t 1 = I low ∧ t 2 = I high) ⟨rfl, rfl, rfl⟩ fun t h ⟨s0, s1, s2⟩ => ?_
  simp only [x_r06_within]
  refine cw_reg_seq fun K hK => ?_
  simp only [go_sem]
  refine hK _ _ ?_
  clear hK K
  refine cw_reg_postK (fun t h => t 6 = B ((decide (low ≤ n)) && (decide (n ≤ high)))) (fun K hK => ?_) ?_
  · simp only [go_sem, s0, s1, s2]
    refine ibr_intro (fun hg1 => ?_) (fun hg1 => ?_)
    · simp only [go_sem, s0, s1, s2, hg1]
      exact hK _ _ (by first | (simp only [go_sem, hg1, List.length_append, List.map_append]; done) | rfl)
    · simp only [go_sem, s0, s1, s2, hg1]
      exact hK _ _ (by first | (simp only [go_sem, hg1, List.length_append, List.map_append]; done) | rfl)
  · rintro t h s6
    simp only [cw_ret, qseq_ret, qblock_ret, retQ_ret]
    obtain rfl := hm0
    exact done_t (by simp only [go_sem, s6, List.length_append, List.map_append]) (frz_v _)

end Go.Nw.HM
