/- That the texts make what their models say: printed by a program. -/
import Derived.Test.YteoedeeljnboeaaHM
set_option linter.all false
set_option linter.unusedVariables false
set_option linter.unusedSimpArgs false
set_option linter.unusedSectionVars false
namespace Go.Nw.HM
open Go.Nw.Halls
set_option linter.unusedSimpArgs false
set_option linter.unusedVariables false
set_option maxHeartbeats 4000000
variable {O : Orac}

theorem k___halls_bound__passes (hf : Has O "(*newel/halls.bound).passes" x___halls_bound__passes) : C___halls_bound__passes O := by
  intro b from_ to_ r hm0
  unfold __halls_bound__passes at hm0
  refine fn_cw hf rfl (fz_cons (.fp _ _ (fz_cons (frz_fs fun a _ => fz_eI a) (fz_cons (frz_fs fun a _ => fz_eI a) (fz_cons (frz_fs fun a _ => fz_eI a) (fz_cons (frz_fs fun a _ => fz_eL_I a) fz_nil))))) (fz_cons (frz_v _) (fz_cons (frz_v _) fz_nil))) (frz_v _) ?_
  refine cw_start (fun t h => t 0 = .fp [.fs 1 (List.map eI b.rates), .fs 1 (List.map eI b.flow), .fs 1 (List.map eI b.most), .fs 1 (List.map eL_I b.come)] 0 ∧ t 1 = I from_ ∧ t 2 = I to_) ⟨rfl, rfl, rfl⟩ fun t h ⟨s0, s1, s2⟩ => ?_
  simp only [x___halls_bound__passes]
  refine cw_reg_seq fun K hK => ?_
  simp only [go_sem]
  refine hK _ _ ?_
  clear hK K
  refine cw_assoc ?_
  refine cw_reg_postK (fun t h => t 0 = .fp [.fs 1 (List.map eI b.rates), .fs 1 (List.map eI b.flow), .fs 1 (List.map eI b.most), .fs 1 (List.map eL_I b.come)] 0 ∧ t 1 = I from_ ∧ t 2 = I to_ ∧ t 16 = B ((decide (to_ < from_)) || (decide (to_ < 0)))) (fun K hK => ?_) ?_
  · simp only [go_sem, s1, s2]
    refine ibr_intro (fun hg1 => ?_) (fun hg1 => ?_)
    · simp only [go_sem, s1, s2, hg1]
      exact hK _ _ ⟨s0, s1, s2, (by first | (simp only [go_sem, hg1, List.length_append, List.map_append]; done) | rfl)⟩
    · simp only [go_sem, s1, s2, hg1]
      exact hK _ _ ⟨s0, s1, s2, (by first | (simp only [go_sem, hg1, List.length_append, List.map_append]; done) | rfl)⟩
  · rintro t h ⟨s0, s1, s2, s16⟩
    refine cw_seq_k fun K2 hK2 => ?_
    simp only [go_sem, s16]
    refine ibr_intro (fun hc3 => ?_) (fun hc3 => ?_)
    · rw [if_t hc3] at hm0
      refine cw_reg_seq fun K hK => ?_
      simp only [go_sem]
      refine hK _ _ ?_
      clear hK K
      simp only [cw_ret, qseq_ret, qblock_ret, retQ_ret]
      obtain rfl := Option.some.inj hm0
      exact done_t (by simp only [go_sem, List.length_append, List.map_append]) (frz_v _)
    · rw [if_f hc3] at hm0
      simp only [cw_skip, qblock_normal, qseq_normal]
      refine hK2 _ _ ?_
      refine cw_reg_seq fun K hK => ?_
      simp only [go_sem, s1]
      refine hK _ _ ?_
      clear hK K
      obtain ⟨x8, h_x8, hm0⟩ := bind_get hm0
      have h_x80 := get_nn h_x8
      have h_x81 := get_lt h_x8
      obtain ⟨x9, h_x9, hm0⟩ := bind_get hm0
      have h_x90 := get_nn h_x9
      have h_x91 := get_lt h_x9
      obtain ⟨x10, h_x10, hm0⟩ := bind_get hm0
      have h_x100 := get_nn h_x10
      have h_x101 := get_lt h_x10
      obtain ⟨x11, h_x11, hm0⟩ := bind_get hm0
      have h_x110 := get_nn h_x11
      have h_x111 := get_lt h_x11
      refine cw_reg_seq fun K hK => ?_
      simp only [go_sem, s0, s1, s2, ielem_get h_x8, irow_get h_x8, h_x80, h_x81, ielem_get h_x9, irow_get h_x9, h_x90, h_x91, ielem_get h_x10, irow_get h_x10, h_x100, h_x101, ielem_get h_x11, irow_get h_x11, h_x110, h_x111]
      refine hK _ _ ?_
      clear hK K
      refine cw_assoc ?_
      refine cw_reg_seq fun K hK => ?_
      simp only [go_sem, s1]
      refine hK _ _ ?_
      clear hK K
      refine cw_seq_k fun K12 hK12 => ?_
      have J13 : ∀ (least_7 : Int) (t : Slots) (h : Heap), t 7 = I least_7 → __halls_bound__passes_j13 least_7 = some r → K12 t h := by
        intro least_7 t h s7 hm0
        refine hK12 _ _ ?_
        unfold __halls_bound__passes_j13 at hm0
        refine cw_reg_seq fun K hK => ?_
        simp only [go_sem, s7]
        refine hK _ _ ?_
        clear hK K
        simp only [cw_ret, qseq_ret, qblock_ret, retQ_ret]
        obtain rfl := Option.some.inj hm0
        exact done_t (by simp only [go_sem, List.length_append, List.map_append]) (frz_v _)
      simp only [cw_block]
      obtain ⟨b14, hl14, hm0⟩ := bind_get hm0
      refine cw_loopM hl14 (fun | (least_7, k_8), t, h => t 0 = .fp [.fs 1 (List.map eI b.rates), .fs 1 (List.map eI b.flow), .fs 1 (List.map eI b.most), .fs 1 (List.map eL_I b.come)] 0 ∧ t 1 = I (mx from_ 0) ∧ t 2 = I to_ ∧ t 7 = I least_7 ∧ t 8 = I k_8) ?_ ?_
      · exact ⟨s0, (by first | (simp only [go_sem, s1, List.length_append, List.map_append]; done) | rfl), s2, (by first | (simp only [go_sem, List.length_append, List.map_append]; done) | rfl), (by first | (simp only [go_sem, List.length_append, List.map_append]; done) | rfl)⟩
      · rintro ⟨least_7, k_8⟩ o t h ⟨s0, s1, s2, s7, s8⟩ hm1 hb14
        simp only [__halls_bound__passes_L12] at hm1
        rw [x___halls_bound__passes_L12]
        refine cw_assoc ?_
        refine cw_reg_seq fun K hK => ?_
        simp only [go_sem, s2, s8]
        refine hK _ _ ?_
        clear hK K
        refine cw_seq_k fun K15 hK15 => ?_
        simp only [go_sem]
        refine ibr_intro (fun hc16 => ?_) (fun hc16 => ?_)
        · rw [if_t hc16] at hm1
          simp only [cw_skip, qblock_normal, qseq_normal]
          refine hK15 _ _ ?_
          refine cw_seq_k fun K17 hK17 => ?_
          simp only [cw_block]
          refine cw_reg_seq fun K hK => ?_
          simp only [go_sem]
          refine hK _ _ ?_
          clear hK K
          refine cw_assoc ?_
          refine cw_reg_seq fun K hK => ?_
          simp only [go_sem, s2, s8]
          refine hK _ _ ?_
          clear hK K
          refine cw_seq_k fun K18 hK18 => ?_
          have J19 : ∀ (behind_9 : Int) (t : Slots) (h : Heap), t 0 = .fp [.fs 1 (List.map eI b.rates), .fs 1 (List.map eI b.flow), .fs 1 (List.map eI b.most), .fs 1 (List.map eL_I b.come)] 0 → t 1 = I (mx from_ 0) → t 2 = I to_ → t 7 = I least_7 → t 8 = I k_8 → t 9 = I behind_9 → __halls_bound__passes_j19 b from_ least_7 k_8 behind_9 = some o → K18 t h := by
            intro behind_9 t h s0 s1 s2 s7 s8 s9 hm1
            refine hK18 _ _ ?_
            unfold __halls_bound__passes_j19 at hm1
            obtain ⟨x23, h_x23, hm1⟩ := bind_get hm1
            have h_x230 := get_nn h_x23
            have h_x231 := get_lt h_x23
            obtain ⟨x24, h_x24, hm1⟩ := bind_get hm1
            have h_x240 := get_nn h_x24
            have h_x241 := get_lt h_x24
            obtain ⟨x25, h_x25, hm1⟩ := bind_get hm1
            have h_x250 := get_nn h_x25
            have h_x251 := get_lt h_x25
            refine cw_reg_k fun K hK => ?_
            simp only [go_sem, s0, s1, s7, s8, s9, ielem_get h_x23, irow_get h_x23, h_x230, h_x231, ielem_get h_x24, irow_get h_x24, h_x240, h_x241, ielem_get h_x25, irow_get h_x25, h_x250, h_x251]
            refine hK _ _ ?_
            clear hK K
            simp only [qblock_normal, qseq_normal]
            refine hK17 _ _ ?_
            refine cw_reg_k fun K hK => ?_
            simp only [go_sem, s8]
            refine hK _ _ ?_
            clear hK K
            simp only [qblock_normal, qseq_normal]
            obtain rfl := Option.some.inj hm1
            refine ⟨_, rfl, ?_⟩
            exact ⟨s0, s1, s2, (by first | (simp only [go_sem, s7, List.length_append, List.map_append]; done) | rfl), (by first | (simp only [go_sem, s8, List.length_append, List.map_append]; done) | rfl)⟩
          simp only [go_sem]
          refine ibr_intro (fun hc26 => ?_) (fun hc26 => ?_)
          · rw [if_t hc26] at hm1
            obtain ⟨x29, h_x29, hm1⟩ := bind_get hm1
            have h_x290 := get_nn h_x29
            have h_x291 := get_lt h_x29
            obtain ⟨x30, h_x30, hm1⟩ := bind_get hm1
            have h_x300 := get_nn h_x30
            have h_x301 := get_lt h_x30
            refine cw_reg_k fun K hK => ?_
            simp only [go_sem, s0, s2, s8, ielem_get h_x29, irow_get h_x29, h_x290, h_x291, ielem_get h_x30, irow_get h_x30, h_x300, h_x301]
            refine hK _ _ ?_
            clear hK K
            simp only [qblock_normal, qseq_normal]
            exact J19 x30 _ _ s0 s1 s2 s7 s8 (by first | (simp only [go_sem, List.length_append, List.map_append]; done) | rfl) hm1
          · rw [if_f hc26] at hm1
            simp only [cw_skip, qblock_normal, qseq_normal]
            exact J19 0 _ _ s0 s1 s2 s7 s8 (by first | (simp only [go_sem, List.length_append, List.map_append]; done) | rfl) hm1
        · rw [if_f hc16] at hm1
          simp only [cw_exit, qseq_exit, qblock_same, qblock_ne, qblock_normal, qseq_normal, Nat.reduceEqDiff, not_false_eq_true]
          obtain rfl := Option.some.inj hm1
          obtain rfl := hb14 _ rfl
          try dsimp only at hm0
          exact J13 least_7 _ _ s7 hm0

end Go.Nw.HM

namespace Go.Nw.HM
open Go.Nw.Halls
set_option linter.unusedSimpArgs false
set_option linter.unusedVariables false
set_option maxHeartbeats 4000000
variable {O : Orac}

theorem k_halls_Check (hf : Has O "newel/halls.Check" x_halls_Check) (k_halls_isComb : C_halls_isComb O) (k_slices_ContainsFunc___api_Train_api_Train_ : C_slices_ContainsFunc___api_Train_api_Train_ O) (k_halls_CheckD1 : C_halls_CheckD1 O) (k_halls_in : C_halls_in O) : C_halls_Check O := by
  intro h_ r hm0
  unfold halls_Check at hm0
  refine fn_cw hf rfl (fz_cons (.agg _ (fz_cons (frz_fs fun a _ => fz_eComb a) (fz_cons (frz_fs fun a _ => fz_eTrain a) (fz_cons (frz_fs fun a _ => fz_eShift a) (fz_cons (frz_v _) fz_nil))))) fz_nil) (frz_v _) ?_
  refine cw_start (fun t h => t 0 = .agg [.fs 5 (List.map eComb h_.Combs), .fs 3 (List.map eTrain h_.Trains), .fs 3 (List.map eShift h_.Shifts), I h_.Until]) rfl fun t h s0 => ?_
  simp only [x_halls_Check]
  refine cw_reg_seq fun K hK => ?_
  simp only [go_sem, s0]
  refine hK _ _ ?_
  clear hK K
  refine cw_assoc ?_
  refine cw_reg_postK (fun t h => t 1 = .fp [.fs 5 (List.map eComb h_.Combs), .fs 3 (List.map eTrain h_.Trains), .fs 3 (List.map eShift h_.Shifts), I h_.Until] 0 ∧ t 37 = B ((((((decide (h_.Until < 1)) || (decide (100 < h_.Until))) || (decide ((List.length h_.Combs : Int) < 1))) || (decide (8 < (List.length h_.Combs : Int)))) || (decide (12 < (List.length h_.Trains : Int)))) || (decide (20 < (List.length h_.Shifts : Int))))) (fun K hK => ?_) ?_
  · simp only [go_sem]
    refine ibr_intro (fun hg1 => ?_) (fun hg1 => ?_)
    · simp only [go_sem, hg1]
      exact hK _ _ ⟨(by first | (simp only [go_sem, hg1, List.length_append, List.map_append]; done) | rfl), (by first | (simp only [go_sem, hg1, List.length_append, List.map_append]; done) | rfl)⟩
    · simp only [go_sem, hg1]
      refine ibr_intro (fun hg2 => ?_) (fun hg2 => ?_)
      · simp only [go_sem, hg1, hg2]
        exact hK _ _ ⟨(by first | (simp only [go_sem, hg1, hg2, List.length_append, List.map_append]; done) | rfl), (by first | (simp only [go_sem, hg1, hg2, List.length_append, List.map_append]; done) | rfl)⟩
      · simp only [go_sem, hg1, hg2]
        refine ibr_intro (fun hg3 => ?_) (fun hg3 => ?_)
        · simp only [go_sem, hg1, hg2, hg3]
          exact hK _ _ ⟨(by first | (simp only [go_sem, hg1, hg2, hg3, List.length_append, List.map_append]; done) | rfl), (by first | (simp only [go_sem, hg1, hg2, hg3, List.length_append, List.map_append]; done) | rfl)⟩
        · simp only [go_sem, hg1, hg2, hg3]
          refine ibr_intro (fun hg4 => ?_) (fun hg4 => ?_)
          · simp only [go_sem, hg1, hg2, hg3, hg4]
            exact hK _ _ ⟨(by first | (simp only [go_sem, hg1, hg2, hg3, hg4, List.length_append, List.map_append]; done) | rfl), (by first | (simp only [go_sem, hg1, hg2, hg3, hg4, List.length_append, List.map_append]; done) | rfl)⟩
          · simp only [go_sem, hg1, hg2, hg3, hg4]
            refine ibr_intro (fun hg5 => ?_) (fun hg5 => ?_)
            · simp only [go_sem, hg1, hg2, hg3, hg4, hg5]
              exact hK _ _ ⟨(by first | (simp only [go_sem, hg1, hg2, hg3, hg4, hg5, List.length_append, List.map_append]; done) | rfl), (by first | (simp only [go_sem, hg1, hg2, hg3, hg4, hg5, List.length_append, List.map_append]; done) | rfl)⟩
            · simp only [go_sem, hg1, hg2, hg3, hg4, hg5]
              exact hK _ _ ⟨(by first | (simp only [go_sem, hg1, hg2, hg3, hg4, hg5, List.length_append, List.map_append]; done) | rfl), (by first | (simp only [go_sem, hg1, hg2, hg3, hg4, hg5, List.length_append, List.map_append]; done) | rfl)⟩
  · rintro t h ⟨s1, s37⟩
    refine cw_seq_k fun K6 hK6 => ?_
    simp only [go_sem, s37]
    refine ibr_intro (fun hc7 => ?_) (fun hc7 => ?_)
    · rw [if_t hc7] at hm0
      refine cw_reg_seq fun K hK => ?_
      simp only [go_sem]
      refine hK _ _ ?_
      clear hK K
      simp only [cw_ret, qseq_ret, qblock_ret, retQ_ret]
      obtain rfl := Option.some.inj hm0
      exact done_t (by simp only [go_sem, List.length_append, List.map_append]) (frz_v _)
    · rw [if_f hc7] at hm0
      simp only [cw_skip, qblock_normal, qseq_normal]
      refine hK6 _ _ ?_
      refine cw_assoc ?_
      refine cw_reg_seq fun K hK => ?_
      simp only [go_sem, s1]
      refine hK _ _ ?_
      clear hK K
      refine cw_seq_k fun K8 hK8 => ?_
      have J9 : ∀ (t : Slots) (h : Heap), t 1 = .fp [.fs 5 (List.map eComb h_.Combs), .fs 3 (List.map eTrain h_.Trains), .fs 3 (List.map eShift h_.Shifts), I h_.Until] 0 → halls_Check_j9 h_ = some r → K8 t h := by
        intro t h s1 hm0
        refine hK8 _ _ ?_
        unfold halls_Check_j9 at hm0
        refine cw_assoc ?_
        obtain ⟨y13, h_y13, hm0⟩ := bind_get hm0
        refine cw_reg_seq fun K hK => ?_
        simp only [go_sem, s1]
        refine icall_fn (k_slices_ContainsFunc___api_Train_api_Train_ h_.Trains "newel/halls.Check$1" [] [.fp [.fs 5 (List.map eComb h_.Combs), .fs 3 (List.map eTrain h_.Trains), .fs 3 (List.map eShift h_.Shifts), I h_.Until] 0] (fun z12 => halls_CheckD1 z12 h_) (.fn _ _ _ fz_nil (fz_cons (.fp _ _ (fz_cons (frz_fs fun a _ => fz_eComb a) (fz_cons (frz_fs fun a _ => fz_eTrain a) (fz_cons (frz_fs fun a _ => fz_eShift a) (fz_cons (frz_v _) fz_nil))))) fz_nil)) (fun z0 y hz => k_halls_CheckD1 z0 h_ y hz) _ h_y13) ?_
        simp only [go_sem, s1]
        refine hK _ _ ?_
        clear hK K
        refine cw_seq_k fun K14 hK14 => ?_
        simp only [go_sem]
        refine ibr_intro (fun hc15 => ?_) (fun hc15 => ?_)
        · rw [if_t hc15] at hm0
          refine cw_reg_seq fun K hK => ?_
          simp only [go_sem]
          refine hK _ _ ?_
          clear hK K
          simp only [cw_ret, qseq_ret, qblock_ret, retQ_ret]
          obtain rfl := Option.some.inj hm0
          exact done_t (by simp only [go_sem, List.length_append, List.map_append]) (frz_v _)
        · rw [if_f hc15] at hm0
          simp only [cw_skip, qblock_normal, qseq_normal]
          refine hK14 _ _ ?_
          refine cw_assoc ?_
          refine cw_reg_seq fun K hK => ?_
          simp only [go_sem, s1]
          refine hK _ _ ?_
          clear hK K
          refine cw_seq_k fun K16 hK16 => ?_
          have J17 : ∀ (t : Slots) (h : Heap), halls_Check_j17 = some r → K16 t h := by
            intro t h hm0
            refine hK16 _ _ ?_
            unfold halls_Check_j17 at hm0
            refine cw_reg_seq fun K hK => ?_
            simp only [go_sem]
            refine hK _ _ ?_
            clear hK K
            simp only [cw_ret, qseq_ret, qblock_ret, retQ_ret]
            obtain rfl := Option.some.inj hm0
            exact done_t (by simp only [go_sem, List.length_append, List.map_append]) (frz_v _)
          simp only [cw_block]
          obtain ⟨b18, hl18, hm0⟩ := bind_get hm0
          refine cw_loopM hl18 (fun | x_56, t, h => t 1 = .fp [.fs 5 (List.map eComb h_.Combs), .fs 3 (List.map eTrain h_.Trains), .fs 3 (List.map eShift h_.Shifts), I h_.Until] 0 ∧ t 54 = .fs 3 (List.map eShift h_.Shifts) ∧ t 55 = I (List.length h_.Shifts : Int) ∧ t 56 = I x_56) ?_ ?_
          · exact ⟨s1, (by first | (simp only [go_sem, List.length_append, List.map_append]; done) | rfl), (by first | (simp only [go_sem, List.length_append, List.map_append]; done) | rfl), (by first | (simp only [go_sem, List.length_append, List.map_append]; done) | rfl)⟩
          · rintro x_56 o t h ⟨s1, s54, s55, s56⟩ hm1 hb18
            simp only [halls_Check_L18] at hm1
            rw [x_halls_Check_L18]
            refine cw_reg_seq fun K hK => ?_
            simp only [go_sem, s55, s56]
            refine hK _ _ ?_
            clear hK K
            refine cw_seq_k fun K19 hK19 => ?_
            simp only [go_sem]
            refine ibr_intro (fun hc20 => ?_) (fun hc20 => ?_)
            · rw [if_t hc20] at hm1
              simp only [cw_skip, qblock_normal, qseq_normal]
              refine hK19 _ _ ?_
              refine cw_seq_k fun K21 hK21 => ?_
              simp only [cw_block]
              obtain ⟨x23, h_x23, hm1⟩ := bind_get hm1
              have h_x230 := get_nn h_x23
              have h_x231 := get_lt h_x23
              refine cw_reg_seq fun K hK => ?_
              simp only [go_sem, s54, s56, ielem_get h_x23, irow_get h_x23, h_x230, h_x231]
              refine hK _ _ ?_
              clear hK K
              obtain ⟨c29, h_c29, hm1⟩ := bind_get hm1
              refine cw_reg_postK (fun t h => t 1 = .fp [.fs 5 (List.map eComb h_.Combs), .fs 3 (List.map eTrain h_.Trains), .fs 3 (List.map eShift h_.Shifts), I h_.Until] 0 ∧ t 54 = .fs 3 (List.map eShift h_.Shifts) ∧ t 55 = I (List.length h_.Shifts : Int) ∧ t 56 = I x_56 ∧ t 106 = B (((c29 || (decide (x23.Comb < 0))) || (decide ((List.length h_.Combs : Int) ≤ x23.Comb))) || (!(halls_in x23.Rate (Span.mk 0 1000))))) (fun K hK => ?_) ?_
              · simp only [go_sem, s1]
                refine ibr_intro (fun hg30 => ?_) (fun hg30 => ?_)
                · simp only [hg30, Bool.not_true, Bool.not_false, eq_self, if_true, if_false, Bool.true_or, Bool.or_true, Bool.false_or, Bool.or_false, Bool.true_and, Bool.and_true, Bool.false_and, Bool.and_false, Bool.false_eq_true] at h_c29
                  obtain rfl := Option.some.inj h_c29
                  simp only [go_sem, s1, hg30]
                  exact hK _ _ ⟨s1, s54, s55, s56, (by first | (simp only [go_sem, hg30, List.length_append, List.map_append]; done) | rfl)⟩
                · simp only [go_sem, s1, hg30]
                  refine ibr_intro (fun hg31 => ?_) (fun hg31 => ?_)
                  · simp only [hg30, hg31, Bool.not_true, Bool.not_false, eq_self, if_true, if_false, Bool.true_or, Bool.or_true, Bool.false_or, Bool.or_false, Bool.true_and, Bool.and_true, Bool.false_and, Bool.and_false, Bool.false_eq_true] at h_c29
                    obtain rfl := Option.some.inj h_c29
                    simp only [go_sem, s1, hg30, hg31]
                    exact hK _ _ ⟨s1, s54, s55, s56, (by first | (simp only [go_sem, hg30, hg31, List.length_append, List.map_append]; done) | rfl)⟩
                  · simp only [hg30, hg31, Bool.not_true, Bool.not_false, eq_self, if_true, if_false, Bool.true_or, Bool.or_true, Bool.false_or, Bool.or_false, Bool.true_and, Bool.and_true, Bool.false_and, Bool.and_false, Bool.false_eq_true] at h_c29
                    obtain ⟨c28, h_c28, h_c29⟩ := bind_get h_c29
                    obtain rfl := Option.some.inj h_c29
                    simp only [go_sem, s1, hg30, hg31]
                    refine ibr_intro (fun hg32 => ?_) (fun hg32 => ?_)
                    · simp only [hg30, hg31, hg32, Bool.not_true, Bool.not_false, eq_self, if_true, if_false, Bool.true_or, Bool.or_true, Bool.false_or, Bool.or_false, Bool.true_and, Bool.and_true, Bool.false_and, Bool.and_false, Bool.false_eq_true] at h_c28
                      obtain ⟨x27, h_x27, h_c28⟩ := bind_get h_c28
                      have h_x270 := get_nn h_x27
                      have h_x271 := get_lt h_x27
                      obtain rfl := Option.some.inj h_c28
                      simp only [go_sem, s1, ielem_get h_x27, irow_get h_x27, h_x270, h_x271, hg30, hg31, hg32]
                      refine ibr_intro (fun hg33 => ?_) (fun hg33 => ?_)
                      · simp only [go_sem, s1, ielem_get h_x27, irow_get h_x27, h_x270, h_x271, hg30, hg31, hg32, hg33]
                        exact hK _ _ ⟨s1, s54, s55, s56, (by first | (simp only [go_sem, hg30, hg31, hg32, hg33, List.length_append, List.map_append]; done) | rfl)⟩
                      · simp only [go_sem, s1, ielem_get h_x27, irow_get h_x27, h_x270, h_x271, hg30, hg31, hg32, hg33]
                        refine ibr_intro (fun hg34 => ?_) (fun hg34 => ?_)
                        · simp only [go_sem, s1, ielem_get h_x27, irow_get h_x27, h_x270, h_x271, hg30, hg31, hg32, hg33, hg34]
                          exact hK _ _ ⟨s1, s54, s55, s56, (by first | (simp only [go_sem, hg30, hg31, hg32, hg33, hg34, List.length_append, List.map_append]; done) | rfl)⟩
                        · simp only [go_sem, s1, ielem_get h_x27, irow_get h_x27, h_x270, h_x271, hg30, hg31, hg32, hg33, hg34]
                          refine ibr_intro (fun hg35 => ?_) (fun hg35 => ?_)
                          · simp only [go_sem, s1, ielem_get h_x27, irow_get h_x27, h_x270, h_x271, hg30, hg31, hg32, hg33, hg34, hg35]
                            exact hK _ _ ⟨s1, s54, s55, s56, (by first | (simp only [go_sem, hg30, hg31, hg32, hg33, hg34, hg35, List.length_append, List.map_append]; done) | rfl)⟩
                          · simp only [go_sem, s1, ielem_get h_x27, irow_get h_x27, h_x270, h_x271, hg30, hg31, hg32, hg33, hg34, hg35]
                            refine icall_fn (k_halls_in x23.Rate (Span.mk 0 1000)) ?_
                            simp only [go_sem, s1, ielem_get h_x27, irow_get h_x27, h_x270, h_x271, hg30, hg31, hg32, hg33, hg34, hg35]
                            exact hK _ _ ⟨s1, s54, s55, s56, (by first | (simp only [go_sem, hg30, hg31, hg32, hg33, hg34, hg35, List.length_append, List.map_append]; done) | rfl)⟩
                    · simp only [hg30, hg31, hg32, Bool.not_true, Bool.not_false, eq_self, if_true, if_false, Bool.true_or, Bool.or_true, Bool.false_or, Bool.or_false, Bool.true_and, Bool.and_true, Bool.false_and, Bool.and_false, Bool.false_eq_true] at h_c28
                      obtain rfl := Option.some.inj h_c28
                      simp only [go_sem, s1, hg30, hg31, hg32]
                      refine ibr_intro (fun hg36 => ?_) (fun hg36 => ?_)
                      · simp only [go_sem, s1, hg30, hg31, hg32, hg36]
                        exact hK _ _ ⟨s1, s54, s55, s56, (by first | (simp only [go_sem, hg30, hg31, hg32, hg36, List.length_append, List.map_append]; done) | rfl)⟩
                      · simp only [go_sem, s1, hg30, hg31, hg32, hg36]
                        refine ibr_intro (fun hg37 => ?_) (fun hg37 => ?_)
                        · simp only [go_sem, s1, hg30, hg31, hg32, hg36, hg37]
                          exact hK _ _ ⟨s1, s54, s55, s56, (by first | (simp only [go_sem, hg30, hg31, hg32, hg36, hg37, List.length_append, List.map_append]; done) | rfl)⟩
                        · simp only [go_sem, s1, hg30, hg31, hg32, hg36, hg37]
                          refine icall_fn (k_halls_in x23.Rate (Span.mk 0 1000)) ?_
                          simp only [go_sem, s1, hg30, hg31, hg32, hg36, hg37]
                          exact hK _ _ ⟨s1, s54, s55, s56, (by first | (simp only [go_sem, hg30, hg31, hg32, hg36, hg37, List.length_append, List.map_append]; done) | rfl)⟩
              · rintro t h ⟨s1, s54, s55, s56, s106⟩
                simp only [go_sem, s106]
                refine ibr_intro (fun hc38 => ?_) (fun hc38 => ?_)
                · rw [if_t hc38] at hm1
                  refine cw_reg_seq fun K hK => ?_
                  simp only [go_sem]
                  refine hK _ _ ?_
                  clear hK K
                  simp only [cw_ret, qseq_ret, qblock_ret, retQ_ret]
                  obtain rfl := Option.some.inj hm1
                  obtain rfl := hb18 _ rfl
                  try dsimp only at hm0
                  obtain rfl := Option.some.inj hm0
                  exact done_t (by simp only [go_sem, List.length_append, List.map_append]) (frz_v _)
                · rw [if_f hc38] at hm1
                  simp only [cw_skip, qblock_normal, qseq_normal]
                  refine hK21 _ _ ?_
                  refine cw_reg_k fun K hK => ?_
                  simp only [go_sem, s56]
                  refine hK _ _ ?_
                  clear hK K
                  simp only [qblock_normal, qseq_normal]
                  obtain rfl := Option.some.inj hm1
                  refine ⟨_, rfl, ?_⟩
                  exact ⟨s1, s54, s55, (by first | (simp only [go_sem, s56, List.length_append, List.map_append]; done) | rfl)⟩
            · rw [if_f hc20] at hm1
              simp only [cw_exit, qseq_exit, qblock_same, qblock_ne, qblock_normal, qseq_normal, Nat.reduceEqDiff, not_false_eq_true]
              obtain rfl := Option.some.inj hm1
              obtain rfl := hb18 _ rfl
              try dsimp only at hm0
              exact J17  _ _  hm0
      simp only [cw_block]
      obtain ⟨b40, hl40, hm0⟩ := bind_get hm0
      refine cw_loopM hl40 (fun | x_41, t, h => t 1 = .fp [.fs 5 (List.map eComb h_.Combs), .fs 3 (List.map eTrain h_.Trains), .fs 3 (List.map eShift h_.Shifts), I h_.Until] 0 ∧ t 40 = I (List.length h_.Combs : Int) ∧ t 41 = I x_41) ?_ ?_
      · exact ⟨s1, (by first | (simp only [go_sem, List.length_append, List.map_append]; done) | rfl), (by first | (simp only [go_sem, List.length_append, List.map_append]; done) | rfl)⟩
      · rintro x_41 o t h ⟨s1, s40, s41⟩ hm1 hb40
        simp only [halls_Check_L9] at hm1
        rw [x_halls_Check_L9]
        refine cw_reg_seq fun K hK => ?_
        simp only [go_sem, s40, s41]
        refine hK _ _ ?_
        clear hK K
        refine cw_seq_k fun K41 hK41 => ?_
        simp only [go_sem]
        refine ibr_intro (fun hc42 => ?_) (fun hc42 => ?_)
        · rw [if_t hc42] at hm1
          simp only [cw_skip, qblock_normal, qseq_normal]
          refine hK41 _ _ ?_
          refine cw_seq_k fun K43 hK43 => ?_
          simp only [cw_block]
          refine cw_reg_seq fun K hK => ?_
          simp only [go_sem, s41]
          refine hK _ _ ?_
          clear hK K
          obtain ⟨y45, h_y45, hm1⟩ := bind_get hm1
          refine cw_reg_seq fun K hK => ?_
          simp only [go_sem, s1]
          refine icall_fn (k_halls_isComb h_ x_41 _ h_y45) ?_
          simp only [go_sem, s1]
          refine hK _ _ ?_
          clear hK K
          simp only [go_sem]
          refine ibr_intro (fun hc46 => ?_) (fun hc46 => ?_)
          · rw [if_t hc46] at hm1
            refine cw_reg_seq fun K hK => ?_
            simp only [go_sem]
            refine hK _ _ ?_
            clear hK K
            simp only [cw_ret, qseq_ret, qblock_ret, retQ_ret]
            obtain rfl := Option.some.inj hm1
            obtain rfl := hb40 _ rfl
            try dsimp only at hm0
            obtain rfl := Option.some.inj hm0
            exact done_t (by simp only [go_sem, List.length_append, List.map_append]) (frz_v _)
          · rw [if_f hc46] at hm1
            simp only [cw_skip, qblock_normal, qseq_normal]
            refine hK43 _ _ ?_
            refine cw_reg_k fun K hK => ?_
            simp only [go_sem, s41]
            refine hK _ _ ?_
            clear hK K
            simp only [qblock_normal, qseq_normal]
            obtain rfl := Option.some.inj hm1
            refine ⟨_, rfl, ?_⟩
            exact ⟨s1, s40, (by first | (simp only [go_sem, s41, List.length_append, List.map_append]; done) | rfl)⟩
        · rw [if_f hc42] at hm1
          simp only [cw_exit, qseq_exit, qblock_same, qblock_ne, qblock_normal, qseq_normal, Nat.reduceEqDiff, not_false_eq_true]
          obtain rfl := Option.some.inj hm1
          obtain rfl := hb40 _ rfl
          try dsimp only at hm0
          exact J9  _ _ s1 hm0

end Go.Nw.HM

namespace Go.Nw.HM
open Go.Nw.Halls
set_option linter.unusedSimpArgs false
set_option linter.unusedVariables false
set_option maxHeartbeats 4000000
variable {O : Orac}

theorem k_halls_CheckD1 (hf : Has O "newel/halls.Check$1" x_halls_CheckD1) (k_halls_isTrain : C_halls_isTrain O) : C_halls_CheckD1 O := by
  intro t_ c0 r hm0
  unfold halls_CheckD1 at hm0
  refine fn_cw hf rfl (fz_cons (.agg _ (fz_cons (frz_v _) (fz_cons (frz_v _) (fz_cons (frz_fs fun a _ => fz_eCrowd a) fz_nil)))) (fz_cons (.fp _ _ (fz_cons (frz_fs fun a _ => fz_eComb a) (fz_cons (frz_fs fun a _ => fz_eTrain a) (fz_cons (frz_fs fun a _ => fz_eShift a) (fz_cons (frz_v _) fz_nil))))) fz_nil)) (frz_v _) ?_
  refine cw_start (fun t h => t 0 = .agg [I t_.At.Low, I t_.At.High, .fs 3 (List.map eCrowd t_.Crowds)] ∧ t 1 = .fp [.fs 5 (List.map eComb c0.Combs), .fs 3 (List.map eTrain c0.Trains), .fs 3 (List.map eShift c0.Shifts), I c0.Until] 0) ⟨rfl, rfl⟩ fun t h ⟨s0, s1⟩ => ?_
  simp only [x_halls_CheckD1]
  refine cw_reg_seq fun K hK => ?_
  simp only [go_sem, s0]
  refine hK _ _ ?_
  clear hK K
  obtain ⟨y2, h_y2, hm0⟩ := bind_get hm0
  refine cw_reg_seq fun K hK => ?_
  simp only [go_sem, s1]
  refine icall_fn (k_halls_isTrain c0 t_ _ h_y2) ?_
  simp only [go_sem, s1]
  refine hK _ _ ?_
  clear hK K
  simp only [cw_ret, qseq_ret, qblock_ret, retQ_ret]
  obtain rfl := Option.some.inj hm0
  exact done_t (by simp only [go_sem, List.length_append, List.map_append]) (frz_v _)

end Go.Nw.HM

namespace Go.Nw.HM
open Go.Nw.Halls
set_option linter.unusedSimpArgs false
set_option linter.unusedVariables false
set_option maxHeartbeats 4000000
variable {O : Orac}

theorem k_halls_Come (hf : Has O "newel/halls.Come" x_halls_Come) (k_halls_check : C_halls_check O) (k_halls_open : C_halls_open O) (k_halls_bounds : C_halls_bounds O) : C_halls_Come O := by
  intro h_ comb from_ to_ r hm0
  unfold halls_Come at hm0
  refine fn_cw hf rfl (fz_cons (.agg _ (fz_cons (frz_fs fun a _ => fz_eComb a) (fz_cons (frz_fs fun a _ => fz_eTrain a) (fz_cons (frz_fs fun a _ => fz_eShift a) (fz_cons (frz_v _) fz_nil))))) (fz_cons (frz_v _) (fz_cons (frz_v _) (fz_cons (frz_v _) fz_nil)))) (.tup _ (fz_cons (frz_v _) (fz_cons (frz_v _) fz_nil))) ?_
  refine cw_start (fun t h => t 0 = .agg [.fs 5 (List.map eComb h_.Combs), .fs 3 (List.map eTrain h_.Trains), .fs 3 (List.map eShift h_.Shifts), I h_.Until] ∧ t 1 = I comb ∧ t 2 = I from_ ∧ t 3 = I to_) ⟨rfl, rfl, rfl, rfl⟩ fun t h ⟨s0, s1, s2, s3⟩ => ?_
  simp only [x_halls_Come]
  refine cw_reg_seq fun K hK => ?_
  simp only [go_sem, s0]
  refine hK _ _ ?_
  clear hK K
  refine cw_assoc ?_
  obtain ⟨y2, h_y2, hm0⟩ := bind_get hm0
  refine cw_reg_seq fun K hK => ?_
  simp only [go_sem, s1, s2, s3]
  refine icall_fz ?_ (k_halls_check h_ comb ([from_, to_]) _ h_y2) (.v _) ?_
  · exact .cons (.refl _ (.agg _ (fz_cons (frz_fs fun a _ => fz_eComb a) (fz_cons (frz_fs fun a _ => fz_eTrain a) (fz_cons (frz_fs fun a _ => fz_eShift a) (fz_cons (frz_v _) fz_nil)))))) (.cons (.refl _ (frz_v _)) (.cons (fz_rs (f := eI) (l := ([from_, to_])) (id := h.nx) (by simp only [go_sem, List.length_append, List.map_append]) (by first | rfl | simp only [go_sem, List.length_append, List.map_append]) fz_eI ln_eI) (.nil)))
  simp only [go_sem, s1, s2, s3]
  refine hK _ _ ?_
  clear hK K
  refine cw_assoc ?_
  refine cw_reg_seq fun K hK => ?_
  simp only [go_sem]
  refine hK _ _ ?_
  clear hK K
  refine cw_seq_k fun K3 hK3 => ?_
  simp only [go_sem]
  refine ibr_intro (fun hc4 => ?_) (fun hc4 => ?_)
  · rw [if_t hc4] at hm0
    refine cw_reg_seq fun K hK => ?_
    simp only [go_sem]
    refine hK _ _ ?_
    clear hK K
    simp only [cw_ret, qseq_ret, qblock_ret, retQ_ret]
    obtain rfl := Option.some.inj hm0
    exact done_t2 (by simp only [go_sem, List.length_append, List.map_append]) (by simp only [go_sem, List.length_append, List.map_append]) (frz_v _) (frz_v _)
  · rw [if_f hc4] at hm0
    simp only [cw_skip, qblock_normal, qseq_normal]
    refine hK3 _ _ ?_
    obtain ⟨y10, h_y10, hm0⟩ := bind_get hm0
    obtain ⟨y11, h_y11, hm0⟩ := bind_get hm0
    obtain ⟨x12, h_x12, hm0⟩ := bind_get hm0
    have h_x120 := get_nn h_x12
    have h_x121 := get_lt h_x12
    obtain ⟨x13, h_x13, hm0⟩ := bind_get hm0
    have h_x130 := get_nn h_x13
    have h_x131 := get_lt h_x13
    obtain ⟨x14, h_x14, hm0⟩ := bind_get hm0
    have h_x140 := get_nn h_x14
    have h_x141 := get_lt h_x14
    refine cw_reg_seq fun K hK => ?_
    simp only [go_sem, s1, s2, s3, ielem_get h_x12, irow_get h_x12, h_x120, h_x121, ielem_get h_x13, irow_get h_x13, h_x130, h_x131, ielem_get h_x14, irow_get h_x14, h_x140, h_x141]
    refine icall_fn (k_halls_open h_ _ h_y10) ?_
    simp only [go_sem, s1, s2, s3, ielem_get h_x12, irow_get h_x12, h_x120, h_x121, ielem_get h_x13, irow_get h_x13, h_x130, h_x131, ielem_get h_x14, irow_get h_x14, h_x140, h_x141]
    refine icall_fn (k_halls_bounds h_ y10 _ h_y11) ?_
    simp only [go_sem, s1, s2, s3, ielem_get h_x12, irow_get h_x12, h_x120, h_x121, ielem_get h_x13, irow_get h_x13, h_x130, h_x131, ielem_get h_x14, irow_get h_x14, h_x140, h_x141]
    refine hK _ _ ?_
    clear hK K
    simp only [cw_ret, qseq_ret, qblock_ret, retQ_ret]
    obtain rfl := Option.some.inj hm0
    exact done_t2 (by simp only [go_sem, List.length_append, List.map_append]) (by simp only [go_sem, List.length_append, List.map_append]) (frz_v _) (frz_v _)

end Go.Nw.HM

namespace Go.Nw.HM
open Go.Nw.Halls
set_option linter.unusedSimpArgs false
set_option linter.unusedVariables false
set_option maxHeartbeats 4000000
variable {O : Orac}

theorem k_halls_Guard (hf : Has O "newel/halls.Guard" x_halls_Guard) (k_halls_check : C_halls_check O) (k_halls_open_w : C_halls_open_w O) (k_halls_bounds_w : C_halls_bounds_w O) (k_halls_over : C_halls_over O) : C_halls_Guard O := by
  intro h_ comb from_ r hm0
  unfold halls_Guard at hm0
  refine fn_cw hf rfl (fz_cons (.agg _ (fz_cons (frz_fs fun a _ => fz_eComb a) (fz_cons (frz_fs fun a _ => fz_eTrain a) (fz_cons (frz_fs fun a _ => fz_eShift a) (fz_cons (frz_v _) fz_nil))))) (fz_cons (frz_v _) (fz_cons (frz_v _) fz_nil))) (.tup _ (fz_cons (frz_v _) (fz_cons (frz_v _) fz_nil))) ?_
  refine cw_start (fun t h => t 0 = .agg [.fs 5 (List.map eComb h_.Combs), .fs 3 (List.map eTrain h_.Trains), .fs 3 (List.map eShift h_.Shifts), I h_.Until] ∧ t 1 = I comb ∧ t 2 = I from_) ⟨rfl, rfl, rfl⟩ fun t h ⟨s0, s1, s2⟩ => ?_
  simp only [x_halls_Guard]
  refine cw_reg_seq fun K hK => ?_
  simp only [go_sem, s0]
  refine hK _ _ ?_
  clear hK K
  refine cw_assoc ?_
  obtain ⟨y2, h_y2, hm0⟩ := bind_get hm0
  refine cw_reg_seq fun K hK => ?_
  simp only [go_sem, s1, s2]
  refine icall_fz ?_ (k_halls_check h_ comb ([from_]) _ h_y2) (.v _) ?_
  · exact .cons (.refl _ (.agg _ (fz_cons (frz_fs fun a _ => fz_eComb a) (fz_cons (frz_fs fun a _ => fz_eTrain a) (fz_cons (frz_fs fun a _ => fz_eShift a) (fz_cons (frz_v _) fz_nil)))))) (.cons (.refl _ (frz_v _)) (.cons (fz_rs (f := eI) (l := ([from_])) (id := h.nx) (by simp only [go_sem, List.length_append, List.map_append]) (by first | rfl | simp only [go_sem, List.length_append, List.map_append]) fz_eI ln_eI) (.nil)))
  simp only [go_sem, s1, s2]
  refine hK _ _ ?_
  clear hK K
  refine cw_assoc ?_
  refine cw_reg_seq fun K hK => ?_
  simp only [go_sem]
  refine hK _ _ ?_
  clear hK K
  refine cw_seq_k fun K3 hK3 => ?_
  simp only [go_sem]
  refine ibr_intro (fun hc4 => ?_) (fun hc4 => ?_)
  · rw [if_t hc4] at hm0
    refine cw_reg_seq fun K hK => ?_
    simp only [go_sem]
    refine hK _ _ ?_
    clear hK K
    simp only [cw_ret, qseq_ret, qblock_ret, retQ_ret]
    obtain rfl := Option.some.inj hm0
    exact done_t2 (by simp only [go_sem, List.length_append, List.map_append]) (by simp only [go_sem, List.length_append, List.map_append]) (frz_v _) (frz_v _)
  · rw [if_f hc4] at hm0
    simp only [cw_skip, qblock_normal, qseq_normal]
    refine hK3 _ _ ?_
    obtain ⟨y6, h_y6, hm0⟩ := bind_get hm0
    refine cw_reg_postK (fun t h => ∃ v9 : AV, ∃ hs9 : List AV, t 1 = I comb ∧ t 2 = I from_ ∧ t 3 = .fp [.fs 5 (List.map eComb h_.Combs), .fs 3 (List.map eTrain h_.Trains), .fs 3 (List.map eShift h_.Shifts), I h_.Until] 0 ∧ t 9 = v9 ∧ RR h v9 hs9 1 eI y6) (fun K hK => ?_) ?_
    · simp only [go_sem]
      refine icallw_of (k_halls_open_w h_ _  _ h_y6) ?_
      rintro rv_y6 hq_y6 ⟨rh_y6, rw_y6, fr_y6, fx_y6, ge_y6⟩
      simp only [go_sem]
      exact hK _ _ ⟨rv_y6, rh_y6, s1, s2, (by first | (simp only [go_sem, List.length_append, List.map_append]; done) | rfl), (by first | (simp only [go_sem, List.length_append, List.map_append]; done) | rfl), rw_y6⟩
    · rintro t h ⟨v9, hs9, s1, s2, s3, s9, qv⟩
      refine cw_reg_seq fun K hK => ?_
      simp only [go_sem, istr_of v9]
      refine hK _ _ ?_
      clear hK K
      simp only [cw_block]
      obtain ⟨b7, hl7, hm0⟩ := bind_get hm0
      refine cw_loopM hl7 (fun | (all_9, n_10), t, h => ∃ v9_1 : AV, t 1 = I comb ∧ t 2 = I from_ ∧ t 3 = .fp [.fs 5 (List.map eComb h_.Combs), .fs 3 (List.map eTrain h_.Trains), .fs 3 (List.map eShift h_.Shifts), I h_.Until] 0 ∧ t 9 = v9_1 ∧ t 10 = I n_10 ∧ RR h v9_1 hs9 1 eI all_9) ?_ ?_
      · exact ⟨v9, s1, s2, s3, s9, (by first | (simp only [go_sem, List.length_append, List.map_append]; done) | rfl), qv⟩
      · rintro ⟨all_9, n_10⟩ o t h ⟨v9_1, s1, s2, s3, s9, s10, qv⟩ hm1 hb7
        simp only [halls_Guard_L12] at hm1
        rw [x_halls_Guard_L12]
        refine cw_seq_k fun K8 hK8 => ?_
        simp only [cw_block]
        refine cw_assoc ?_
        obtain ⟨y11, h_y11, hm1⟩ := bind_get hm1
        obtain ⟨y12, h_y12, hm1⟩ := bind_get hm1
        refine cw_reg_postK (fun t h => t 1 = I comb ∧ t 2 = I from_ ∧ t 3 = .fp [.fs 5 (List.map eComb h_.Combs), .fs 3 (List.map eTrain h_.Trains), .fs 3 (List.map eShift h_.Shifts), I h_.Until] 0 ∧ t 9 = v9_1 ∧ t 10 = I n_10 ∧ t 29 = B (decide ((List.length y12 : Int) = 0)) ∧ RR h v9_1 hs9 1 eI all_9) (fun K hK => ?_) ?_
        · simp only [go_sem, s3, s9, rr_len qv, istr_of v9, istr_of v9_1]
          refine icallw_of (k_halls_bounds_w h_ all_9 v9_1 hs9 _ qv _ h_y11) ?_
          rintro _ hq_y11 ⟨rfl, fr_y11, fx_y11⟩
          simp only [go_sem, s3, s9, rr_len qv, istr_of v9, istr_of v9_1]
          refine icall_fn (k_halls_over h_ y11 _ h_y12) ?_
          simp only [go_sem, s3, s9, rr_len qv, istr_of v9, istr_of v9_1]
          exact hK _ _ ⟨s1, s2, s3, s9, s10, (by first | (simp only [go_sem, List.length_append, List.map_append]; done) | rfl), (rr_later qv (by intro j hj  hl; first | rfl | simp only [go_sem, hl, fr_y11]) (by first | omega | exact Nat.le_refl _ | (simp only [go_sem, nxs] <;> omega)))⟩
        · rintro t h ⟨s1, s2, s3, s9, s10, s29, qv⟩
          refine cw_seq_k fun K13 hK13 => ?_
          simp only [go_sem, s29]
          refine ibr_intro (fun hc14 => ?_) (fun hc14 => ?_)
          · rw [if_t hc14] at hm1
            refine cw_reg_seq fun K hK => ?_
            simp only [go_sem, s10, istr_of v9, istr_of v9_1]
            refine hK _ _ ?_
            clear hK K
            simp only [cw_ret, qseq_ret, qblock_ret, retQ_ret]
            obtain rfl := Option.some.inj hm1
            obtain rfl := hb7 _ rfl
            try dsimp only at hm0
            obtain rfl := Option.some.inj hm0
            exact done_t2 (by simp only [go_sem, rr_lates qv, List.length_append, List.map_append]) (by simp only [go_sem, rr_lates qv, List.length_append, List.map_append]) (frz_v _) (frz_v _)
          · rw [if_f hc14] at hm1
            simp only [cw_skip, qblock_normal, qseq_normal]
            refine hK13 _ _ ?_
            refine cw_assoc ?_
            refine cw_reg_seq fun K hK => ?_
            simp only [go_sem, s2, s3, s10, istr_of v9, istr_of v9_1]
            refine hK _ _ ?_
            clear hK K
            refine cw_seq_k fun K15 hK15 => ?_
            simp only [go_sem]
            refine ibr_intro (fun hc16 => ?_) (fun hc16 => ?_)
            · rw [if_t hc16] at hm1
              refine cw_reg_seq fun K hK => ?_
              simp only [go_sem, istr_of v9, istr_of v9_1]
              refine hK _ _ ?_
              clear hK K
              simp only [cw_ret, qseq_ret, qblock_ret, retQ_ret]
              obtain rfl := Option.some.inj hm1
              obtain rfl := hb7 _ rfl
              try dsimp only at hm0
              obtain rfl := Option.some.inj hm0
              exact done_t2 (by simp only [go_sem, rr_lates qv, List.length_append, List.map_append]) (by simp only [go_sem, rr_lates qv, List.length_append, List.map_append]) (frz_v _) (frz_v _)
            · rw [if_f hc16] at hm1
              simp only [cw_skip, qblock_normal, qseq_normal]
              refine hK15 _ _ ?_
              obtain ⟨x19, h_x19, hm1⟩ := bind_get hm1
              have h_x190 := get_nn h_x19
              have h_x191 := get_lt h_x19
              obtain ⟨iqp34, rfl, qu, qi⟩ := rr_top qv h_x19
              obtain ⟨wp35, hw_wp35, os_wp35⟩ := rr_row qv h_x19
              obtain ⟨x20, h_x20, hm1⟩ := bind_get hm1
              have h_x200 := get_nn h_x20
              have h_x201 := get_lt h_x20
              obtain ⟨irp36, rfl, obr_irp36, ltr_irp36⟩ := own_get os_wp35 h_x20
              refine cw_reg_postK1 (fun t h => ∃ v9_2 : AV, t 1 = I comb ∧ t 2 = I from_ ∧ t 3 = .fp [.fs 5 (List.map eComb h_.Combs), .fs 3 (List.map eTrain h_.Trains), .fs 3 (List.map eShift h_.Shifts), I h_.Until] 0 ∧ t 9 = v9_2 ∧ t 10 = I n_10 ∧ RR h v9_2 hs9 1 eI (List.set all_9 (Int.toNat comb) (List.set x19 (Int.toNat (wr (from_ + n_10))) 0))) (fun K hK => ?_) ?_
              · simp only [go_sem, s1, s2, s9, rr_len qv, s10, qu, qi, ielem_get h_x19, irow_get h_x19, h_x190, h_x191, ielem_get hw_wp35, irow_get hw_wp35, own_len os_wp35, ielem_get h_x20, irow_get h_x20, h_x200, h_x201, obr_irp36, ltr_irp36, istr_of v9]
                exact hK _ _ ⟨(.rs iqp34 0 (List.length all_9)), s1, s2, s3, (by first | (simp only [go_sem, s9, List.length_append, List.map_append]; done) | rfl), s10, (rr_upd qv h_x19 hw_wp35 (by simp only [go_sem, rr_lates qv, qu, qi, rr_top_ne qv hw_wp35, nsym (rr_top_ne qv hw_wp35), List.length_append, List.map_append]) (by simp only [List.length_set]) (by intro j hj hne hl; first | rfl | simp only [go_sem, hne, hl, qi]) (by first | omega | exact Nat.le_refl _ | (simp only [go_sem, nxs] <;> omega)))⟩
              · try clear s1 s2 s3 s9 s10 s29 qv qu qi
                rintro t h ⟨v9_2, s1, s2, s3, s9, s10, qv⟩
                simp only [qblock_normal, qseq_normal]
                refine hK8 _ _ ?_
                refine cw_reg_k fun K hK => ?_
                simp only [go_sem, s10, istr_of v9, istr_of v9_2]
                refine hK _ _ ?_
                clear hK K
                simp only [qblock_normal, qseq_normal]
                obtain rfl := Option.some.inj hm1
                refine ⟨_, rfl, ?_⟩
                exact ⟨v9_2, s1, s2, s3, s9, (by first | (simp only [go_sem, s10, List.length_append, List.map_append]; done) | rfl), qv⟩

end Go.Nw.HM

namespace Go.Nw.HM
open Go.Nw.Halls
set_option linter.unusedSimpArgs false
set_option linter.unusedVariables false
set_option maxHeartbeats 4000000
variable {O : Orac}

theorem k_halls_Most (hf : Has O "newel/halls.Most" x_halls_Most) (k_halls_check : C_halls_check O) (k_halls_open : C_halls_open O) (k_halls_bounds : C_halls_bounds O) : C_halls_Most O := by
  intro h_ comb r hm0
  unfold halls_Most at hm0
  refine fn_cw hf rfl (fz_cons (.agg _ (fz_cons (frz_fs fun a _ => fz_eComb a) (fz_cons (frz_fs fun a _ => fz_eTrain a) (fz_cons (frz_fs fun a _ => fz_eShift a) (fz_cons (frz_v _) fz_nil))))) (fz_cons (frz_v _) fz_nil)) (.tup _ (fz_cons (frz_fs fun a _ => fz_eI a) (fz_cons (frz_v _) fz_nil))) ?_
  refine cw_start (fun t h => t 0 = .agg [.fs 5 (List.map eComb h_.Combs), .fs 3 (List.map eTrain h_.Trains), .fs 3 (List.map eShift h_.Shifts), I h_.Until] ∧ t 1 = I comb) ⟨rfl, rfl⟩ fun t h ⟨s0, s1⟩ => ?_
  simp only [x_halls_Most]
  refine cw_reg_seq fun K hK => ?_
  simp only [go_sem, s0]
  refine hK _ _ ?_
  clear hK K
  refine cw_assoc ?_
  obtain ⟨y2, h_y2, hm0⟩ := bind_get hm0
  refine cw_reg_seq fun K hK => ?_
  simp only [go_sem, s1]
  refine icall_fn2 ?_ (fz_cons (.agg _ (fz_cons (frz_fs fun a _ => fz_eComb a) (fz_cons (frz_fs fun a _ => fz_eTrain a) (fz_cons (frz_fs fun a _ => fz_eShift a) (fz_cons (frz_v _) fz_nil))))) (fz_cons (frz_v _) (fz_cons (frz_v _) fz_nil))) (k_halls_check h_ comb ([]) _ h_y2) ?_
  · exact .cons (.refl _ (.agg _ (fz_cons (frz_fs fun a _ => fz_eComb a) (fz_cons (frz_fs fun a _ => fz_eTrain a) (fz_cons (frz_fs fun a _ => fz_eShift a) (fz_cons (frz_v _) fz_nil)))))) (.cons (.refl _ (frz_v _)) (.cons (.nil _) (.nil)))
  simp only [go_sem, s1]
  refine hK _ _ ?_
  clear hK K
  refine cw_assoc ?_
  refine cw_reg_seq fun K hK => ?_
  simp only [go_sem]
  refine hK _ _ ?_
  clear hK K
  refine cw_seq_k fun K3 hK3 => ?_
  simp only [go_sem]
  refine ibr_intro (fun hc4 => ?_) (fun hc4 => ?_)
  · rw [if_t hc4] at hm0
    refine cw_reg_seq fun K hK => ?_
    simp only [go_sem]
    refine hK _ _ ?_
    clear hK K
    simp only [cw_ret, qseq_ret, qblock_ret, retQ_ret]
    obtain rfl := Option.some.inj hm0
    exact done_fz2 (v := .v (.slice none 0 0)) (u := I y2) (by simp only [go_sem, List.length_append, List.map_append]) (by simp only [go_sem, List.length_append, List.map_append]) (.nil _) (.refl _ (frz_v _))
  · rw [if_f hc4] at hm0
    simp only [cw_skip, qblock_normal, qseq_normal]
    refine hK3 _ _ ?_
    obtain ⟨y8, h_y8, hm0⟩ := bind_get hm0
    obtain ⟨y9, h_y9, hm0⟩ := bind_get hm0
    obtain ⟨x10, h_x10, hm0⟩ := bind_get hm0
    have h_x100 := get_nn h_x10
    have h_x101 := get_lt h_x10
    refine cw_reg_seq fun K hK => ?_
    simp only [go_sem, s1, ielem_get h_x10, irow_get h_x10, h_x100, h_x101]
    refine icall_fn (k_halls_open h_ _ h_y8) ?_
    simp only [go_sem, s1, ielem_get h_x10, irow_get h_x10, h_x100, h_x101]
    refine icall_fn (k_halls_bounds h_ y8 _ h_y9) ?_
    simp only [go_sem, s1, ielem_get h_x10, irow_get h_x10, h_x100, h_x101]
    refine hK _ _ ?_
    clear hK K
    simp only [cw_ret, qseq_ret, qblock_ret, retQ_ret]
    obtain rfl := Option.some.inj hm0
    exact done_t2 (by simp only [go_sem, List.length_append, List.map_append]) (by simp only [go_sem, List.length_append, List.map_append]) (frz_fs fun a _ => fz_eI a) (frz_v _)

end Go.Nw.HM

namespace Go.Nw.HM
open Go.Nw.Halls
set_option linter.unusedSimpArgs false
set_option linter.unusedVariables false
set_option maxHeartbeats 4000000
variable {O : Orac}

theorem k_halls_Over (hf : Has O "newel/halls.Over" x_halls_Over) (k_halls_Check : C_halls_Check O) (k_halls_open : C_halls_open O) (k_halls_bounds : C_halls_bounds O) (k_halls_over : C_halls_over O) : C_halls_Over O := by
  intro h_ r hm0
  unfold halls_Over at hm0
  refine fn_cw hf rfl (fz_cons (.agg _ (fz_cons (frz_fs fun a _ => fz_eComb a) (fz_cons (frz_fs fun a _ => fz_eTrain a) (fz_cons (frz_fs fun a _ => fz_eShift a) (fz_cons (frz_v _) fz_nil))))) fz_nil) (.tup _ (fz_cons (frz_fs fun a _ => fz_eA2_I a) (fz_cons (frz_v _) fz_nil))) ?_
  refine cw_start (fun t h => t 0 = .agg [.fs 5 (List.map eComb h_.Combs), .fs 3 (List.map eTrain h_.Trains), .fs 3 (List.map eShift h_.Shifts), I h_.Until]) rfl fun t h s0 => ?_
  simp only [x_halls_Over]
  refine cw_reg_seq fun K hK => ?_
  simp only [go_sem, s0]
  refine hK _ _ ?_
  clear hK K
  refine cw_assoc ?_
  obtain ⟨y2, h_y2, hm0⟩ := bind_get hm0
  refine cw_reg_seq fun K hK => ?_
  simp only [go_sem]
  refine icall_fn (k_halls_Check h_ _ h_y2) ?_
  simp only [go_sem]
  refine hK _ _ ?_
  clear hK K
  refine cw_assoc ?_
  refine cw_reg_seq fun K hK => ?_
  simp only [go_sem]
  refine hK _ _ ?_
  clear hK K
  refine cw_seq_k fun K3 hK3 => ?_
  simp only [go_sem]
  refine ibr_intro (fun hc4 => ?_) (fun hc4 => ?_)
  · rw [if_t hc4] at hm0
    refine cw_reg_seq fun K hK => ?_
    simp only [go_sem]
    refine hK _ _ ?_
    clear hK K
    simp only [cw_ret, qseq_ret, qblock_ret, retQ_ret]
    obtain rfl := Option.some.inj hm0
    exact done_fz2 (v := .v (.slice none 0 0)) (u := I y2) (by simp only [go_sem, List.length_append, List.map_append]) (by simp only [go_sem, List.length_append, List.map_append]) (.nil _) (.refl _ (frz_v _))
  · rw [if_f hc4] at hm0
    simp only [cw_skip, qblock_normal, qseq_normal]
    refine hK3 _ _ ?_
    obtain ⟨y8, h_y8, hm0⟩ := bind_get hm0
    obtain ⟨y9, h_y9, hm0⟩ := bind_get hm0
    obtain ⟨y10, h_y10, hm0⟩ := bind_get hm0
    refine cw_reg_seq fun K hK => ?_
    simp only [go_sem]
    refine icall_fn (k_halls_open h_ _ h_y8) ?_
    simp only [go_sem]
    refine icall_fn (k_halls_bounds h_ y8 _ h_y9) ?_
    simp only [go_sem]
    refine icall_fn (k_halls_over h_ y9 _ h_y10) ?_
    simp only [go_sem]
    refine hK _ _ ?_
    clear hK K
    simp only [cw_ret, qseq_ret, qblock_ret, retQ_ret]
    obtain rfl := Option.some.inj hm0
    exact done_t2 (by simp only [go_sem, List.length_append, List.map_append]) (by simp only [go_sem, List.length_append, List.map_append]) (frz_fs fun a _ => fz_eA2_I a) (frz_v _)

end Go.Nw.HM

namespace Go.Nw.HM
open Go.Nw.Halls
set_option linter.unusedSimpArgs false
set_option linter.unusedVariables false
set_option maxHeartbeats 4000000
variable {O : Orac}

theorem k_halls_Play (hf : Has O "newel/halls.Play" x_halls_Play) (k_halls_Check : C_halls_Check O) (k_halls_isDay : C_halls_isDay O) (k_halls_rates : C_halls_rates O) : C_halls_Play O := by
  intro h_ d r hm0
  unfold halls_Play at hm0
  refine fn_cw hf rfl (fz_cons (.agg _ (fz_cons (frz_fs fun a _ => fz_eComb a) (fz_cons (frz_fs fun a _ => fz_eTrain a) (fz_cons (frz_fs fun a _ => fz_eShift a) (fz_cons (frz_v _) fz_nil))))) (fz_cons (.agg _ (fz_cons (frz_fs fun a _ => fz_eI a) (fz_cons (frz_fs fun a _ => fz_eL_I a) (fz_cons (frz_fs fun a _ => fz_eL_I a) fz_nil)))) fz_nil)) (.tup _ (fz_cons (frz_fs fun a _ => fz_eL_I a) (fz_cons (frz_v _) fz_nil))) ?_
  refine cw_start (fun t h => t 0 = .agg [.fs 5 (List.map eComb h_.Combs), .fs 3 (List.map eTrain h_.Trains), .fs 3 (List.map eShift h_.Shifts), I h_.Until] ∧ t 1 = .agg [.fs 1 (List.map eI d.At), .fs 1 (List.map eL_I d.People), .fs 1 (List.map eL_I d.Walks)]) ⟨rfl, rfl⟩ fun t h ⟨s0, s1⟩ => ?_
  simp only [x_halls_Play]
  refine cw_reg_seq fun K hK => ?_
  simp only [go_sem, s0, s1]
  refine hK _ _ ?_
  clear hK K
  refine cw_assoc ?_
  obtain ⟨y2, h_y2, hm0⟩ := bind_get hm0
  refine cw_reg_seq fun K hK => ?_
  simp only [go_sem]
  refine icall_fn (k_halls_Check h_ _ h_y2) ?_
  simp only [go_sem]
  refine hK _ _ ?_
  clear hK K
  refine cw_assoc ?_
  refine cw_reg_seq fun K hK => ?_
  simp only [go_sem]
  refine hK _ _ ?_
  clear hK K
  refine cw_seq_k fun K3 hK3 => ?_
  simp only [go_sem]
  refine ibr_intro (fun hc4 => ?_) (fun hc4 => ?_)
  · rw [if_t hc4] at hm0
    refine cw_reg_seq fun K hK => ?_
    simp only [go_sem]
    refine hK _ _ ?_
    clear hK K
    simp only [cw_ret, qseq_ret, qblock_ret, retQ_ret]
    obtain rfl := Option.some.inj hm0
    exact done_fz2 (v := .v (.slice none 0 0)) (u := I y2) (by simp only [go_sem, List.length_append, List.map_append]) (by simp only [go_sem, List.length_append, List.map_append]) (.nil _) (.refl _ (frz_v _))
  · rw [if_f hc4] at hm0
    simp only [cw_skip, qblock_normal, qseq_normal]
    refine hK3 _ _ ?_
    refine cw_assoc ?_
    obtain ⟨y6, h_y6, hm0⟩ := bind_get hm0
    refine cw_reg_seq fun K hK => ?_
    simp only [go_sem]
    refine icall_fn (k_halls_isDay h_ d _ h_y6) ?_
    simp only [go_sem]
    refine hK _ _ ?_
    clear hK K
    refine cw_seq_k fun K7 hK7 => ?_
    simp only [go_sem]
    refine ibr_intro (fun hc8 => ?_) (fun hc8 => ?_)
    · rw [if_t hc8] at hm0
      refine cw_reg_seq fun K hK => ?_
      simp only [go_sem]
      refine hK _ _ ?_
      clear hK K
      simp only [cw_ret, qseq_ret, qblock_ret, retQ_ret]
      obtain rfl := Option.some.inj hm0
      exact done_fz2 (v := .v (.slice none 0 0)) (u := I 61) (by simp only [go_sem, List.length_append, List.map_append]) (by simp only [go_sem, List.length_append, List.map_append]) (.nil _) (.refl _ (frz_v _))
    · rw [if_f hc8] at hm0
      simp only [cw_skip, qblock_normal, qseq_normal]
      refine hK7 _ _ ?_
      refine cw_reg_seq fun K hK => ?_
      simp only [go_sem]
      refine hK _ _ ?_
      clear hK K
      refine cw_assoc ?_
      refine cw_reg_seq fun K hK => ?_
      simp only [go_sem]
      refine hK _ _ ?_
      clear hK K
      refine cw_seq_k fun K9 hK9 => ?_
      have J10 : ∀ (rows_7 : List (List Int)) (v7 : AV) (hs7 : List AV) (t : Slots) (h : Heap), t 2 = .fp [.fs 5 (List.map eComb h_.Combs), .fs 3 (List.map eTrain h_.Trains), .fs 3 (List.map eShift h_.Shifts), I h_.Until] 0 → t 3 = .fp [.fs 1 (List.map eI d.At), .fs 1 (List.map eL_I d.People), .fs 1 (List.map eL_I d.Walks)] 0 → t 7 = v7 → RR h v7 hs7 1 eI rows_7 → halls_Play_j10 h_ d rows_7 = some r → K9 t h := by
        intro rows_7 v7 hs7 t h s2 s3 s7 q3 hm0
        refine hK9 _ _ ?_
        unfold halls_Play_j10 at hm0
        refine cw_assoc ?_
        refine cw_reg_seq fun K hK => ?_
        simp only [go_sem, s2, istr_of v7]
        refine hK _ _ ?_
        clear hK K
        refine cw_seq_k fun K11 hK11 => ?_
        have J12 : ∀ (rows_7_1 : List (List Int)) (v7_1 : AV) (t : Slots) (h : Heap), t 2 = .fp [.fs 5 (List.map eComb h_.Combs), .fs 3 (List.map eTrain h_.Trains), .fs 3 (List.map eShift h_.Shifts), I h_.Until] 0 → t 3 = .fp [.fs 1 (List.map eI d.At), .fs 1 (List.map eL_I d.People), .fs 1 (List.map eL_I d.Walks)] 0 → t 7 = v7_1 → RR h v7_1 hs7 1 eI rows_7_1 → halls_Play_j12 h_ d rows_7_1 = some r → K11 t h := by
          intro rows_7_1 v7_1 t h s2 s3 s7 q3 hm0
          refine hK11 _ _ ?_
          unfold halls_Play_j12 at hm0
          obtain ⟨l14, h_l14, hm0⟩ := bind_get hm0
          refine cw_reg_postK (fun t h => ∃ v12 : AV, ∃ hs12 : List AV, t 2 = .fp [.fs 5 (List.map eComb h_.Combs), .fs 3 (List.map eTrain h_.Trains), .fs 3 (List.map eShift h_.Shifts), I h_.Until] 0 ∧ t 3 = .fp [.fs 1 (List.map eI d.At), .fs 1 (List.map eL_I d.People), .fs 1 (List.map eL_I d.Walks)] 0 ∧ t 7 = v7_1 ∧ t 12 = v12 ∧ RR h v7_1 hs7 1 eI rows_7_1 ∧ RR h v12 hs12 1 eI l14 ∧ (∀ j, ¬RNot v12 hs12 j → RNot v7_1 hs7 j)) (fun K hK => ?_) ?_
          · simp only [go_sem, s2, istr_of v7, istr_of v7_1]
            refine imksl_rr h_l14 ?_
            simp only [go_sem, s2, istr_of v7, istr_of v7_1]
            exact hK _ _ ⟨(.rs h.nx 0 (List.length l14)), (List.map (fun _ => nilS) l14), s2, s3, s7, (by first | (simp only [go_sem, List.length_append, List.map_append]; done) | rfl), (rr_later q3 (by intro j hj  hl; first | rfl | simp only [go_sem, hl]) (by first | omega | exact Nat.le_refl _ | (simp only [go_sem, nxs] <;> omega))), (rr_make (by simp only [go_sem, List.length_append, List.map_append]) rfl (by simp only [go_sem]) (mks_nil h_l14)), (rr_sym (fun j hj => (rnot_make (nsym (rr_ne hj (by first | assumption | exact rr_late (by assumption) (by first | assumption | omega | (simp only [nxs] <;> omega))))))))⟩
          · rintro t h ⟨v12, hs12, s2, s3, s7, s12, q3, qj, rs_o7_o12⟩
            refine cw_assoc ?_
            refine cw_reg_seq fun K hK => ?_
            simp only [go_sem, s2, istr_of v7, istr_of v7_1, istr_of v12]
            refine hK _ _ ?_
            clear hK K
            refine cw_seq_k fun K15 hK15 => ?_
            have J16 : ∀ (open_12 : List (List Int)) (v12_1 : AV) (hs12_1 : List AV) (t : Slots) (h : Heap), t 2 = .fp [.fs 5 (List.map eComb h_.Combs), .fs 3 (List.map eTrain h_.Trains), .fs 3 (List.map eShift h_.Shifts), I h_.Until] 0 → t 3 = .fp [.fs 1 (List.map eI d.At), .fs 1 (List.map eL_I d.People), .fs 1 (List.map eL_I d.Walks)] 0 → t 7 = v7_1 → t 12 = v12_1 → RR h v7_1 hs7 1 eI rows_7_1 → RR h v12_1 hs12_1 1 eI open_12 → (∀ j, ¬RNot v12_1 hs12_1 j → RNot v7_1 hs7 j) → halls_Play_j16 h_ d rows_7_1 open_12 = some r → K15 t h := by
              intro open_12 v12_1 hs12_1 t h s2 s3 s7 s12 q3 qj rs_o7_o12 hm0
              refine hK15 _ _ ?_
              unfold halls_Play_j16 at hm0
              refine cw_assoc ?_
              refine cw_reg_seq fun K hK => ?_
              simp only [go_sem, s7, rr_len q3, istr_of v7, istr_of v7_1, istr_of v12, istr_of v12_1]
              refine hK _ _ ?_
              clear hK K
              refine cw_seq_k fun K17 hK17 => ?_
              have J18 : ∀ (rows_7_2 : List (List Int)) (v7_2 : AV) (t : Slots) (h : Heap), t 7 = v7_2 → RR h v7_2 hs7 1 eI rows_7_2 → halls_Play_j18 rows_7_2 = some r → K17 t h := by
                intro rows_7_2 v7_2 t h s7 q3 hm0
                refine hK17 _ _ ?_
                unfold halls_Play_j18 at hm0
                refine cw_reg_seq fun K hK => ?_
                simp only [go_sem, s7, rr_len q3, istr_of v7, istr_of v7_1, istr_of v12, istr_of v12_1, istr_of v7_2]
                refine hK _ _ ?_
                clear hK K
                simp only [cw_ret, qseq_ret, qblock_ret, retQ_ret]
                obtain rfl := Option.some.inj hm0
                exact done_fz2 (v := v7_2) (u := I 0) (by simp only [go_sem, rr_lates q3, List.length_append, List.map_append]) (by simp only [go_sem, rr_lates q3, List.length_append, List.map_append]) (rr_fz (e := eL_I) (rr_later q3 (by intro j hj  hl; first | rfl | simp only [go_sem, hl]) (by first | omega | exact Nat.le_refl _ | (simp only [go_sem, nxs] <;> omega))) (fun _ => rfl) fz_eI ln_eI) (.refl _ (frz_v _))
              simp only [cw_block]
              obtain ⟨b19, hl19, hm0⟩ := bind_get hm0
              refine cw_loopM hl19 (fun | (rows_7_2, x_101), t, h => ∃ v7_2 : AV, ∃ v12_2 : AV, t 2 = .fp [.fs 5 (List.map eComb h_.Combs), .fs 3 (List.map eTrain h_.Trains), .fs 3 (List.map eShift h_.Shifts), I h_.Until] 0 ∧ t 3 = .fp [.fs 1 (List.map eI d.At), .fs 1 (List.map eL_I d.People), .fs 1 (List.map eL_I d.Walks)] 0 ∧ t 7 = v7_2 ∧ t 12 = v12_2 ∧ t 99 = v7_2 ∧ t 100 = I (List.length rows_7_1 : Int) ∧ t 101 = I x_101 ∧ RR h v7_2 hs7 1 eI rows_7_2 ∧ RR h v12_2 hs12_1 1 eI open_12 ∧ (∀ j, ¬RNot v12_2 hs12_1 j → RNot v7_2 hs7 j)) ?_ ?_
              · exact ⟨v7_1, v12_1, s2, s3, s7, s12, (by first | (simp only [go_sem, List.length_append, List.map_append]; done) | rfl), (by first | (simp only [go_sem, List.length_append, List.map_append]; done) | rfl), (by first | (simp only [go_sem, List.length_append, List.map_append]; done) | rfl), q3, qj, (fun j hj => (rs_o7_o12 j hj))⟩
              · rintro ⟨rows_7_2, x_101⟩ o t h ⟨v7_2, v12_2, s2, s3, s7, s12, s99, s100, s101, q3, qj, rs_o7_o12⟩ hm1 hb19
                simp only [halls_Play_L46] at hm1
                rw [x_halls_Play_L46]
                refine cw_reg_seq fun K hK => ?_
                simp only [go_sem, s100, s101, istr_of v7, istr_of v7_1, istr_of v12, istr_of v12_1, istr_of v7_2, istr_of v12_2]
                refine hK _ _ ?_
                clear hK K
                refine cw_seq_k fun K20 hK20 => ?_
                simp only [go_sem]
                refine ibr_intro (fun hc21 => ?_) (fun hc21 => ?_)
                · rw [if_t hc21] at hm1
                  simp only [cw_skip, qblock_normal, qseq_normal]
                  refine hK20 _ _ ?_
                  refine cw_seq_k fun K22 hK22 => ?_
                  have J23 : ∀ (rows_7_3 : List (List Int)) (v7_3 : AV) (v12_3 : AV) (t : Slots) (h : Heap), t 2 = .fp [.fs 5 (List.map eComb h_.Combs), .fs 3 (List.map eTrain h_.Trains), .fs 3 (List.map eShift h_.Shifts), I h_.Until] 0 → t 3 = .fp [.fs 1 (List.map eI d.At), .fs 1 (List.map eL_I d.People), .fs 1 (List.map eL_I d.Walks)] 0 → t 7 = v7_3 → t 12 = v12_3 → t 99 = v7_3 → t 100 = I (List.length rows_7_1 : Int) → t 101 = I x_101 → RR h v7_3 hs7 1 eI rows_7_3 → RR h v12_3 hs12_1 1 eI open_12 → (∀ j, ¬RNot v12_3 hs12_1 j → RNot v7_3 hs7 j) → halls_Play_j23 x_101 rows_7_3 = some o → K22 t h := by
                    try clear s2 s3 s7 s12 s99 s100 s101 q3 qj rs_o7_o12
                    intro rows_7_3 v7_3 v12_3 t h s2 s3 s7 s12 s99 s100 s101 q3 qj rs_o7_o12 hm1
                    refine hK22 _ _ ?_
                    unfold halls_Play_j23 at hm1
                    refine cw_reg_k fun K hK => ?_
                    simp only [go_sem, s101, istr_of v7, istr_of v7_1, istr_of v12, istr_of v12_1, istr_of v7_2, istr_of v12_2, istr_of v7_3, istr_of v12_3]
                    refine hK _ _ ?_
                    clear hK K
                    simp only [qblock_normal, qseq_normal]
                    obtain rfl := Option.some.inj hm1
                    refine ⟨_, rfl, ?_⟩
                    exact ⟨v7_3, v12_3, s2, s3, s7, s12, s99, s100, (by first | (simp only [go_sem, s101, List.length_append, List.map_append]; done) | rfl), q3, qj, (fun j hj => (rs_o7_o12 j hj))⟩
                  simp only [cw_block]
                  obtain ⟨x25, h_x25, hm1⟩ := bind_get hm1
                  have h_x250 := get_nn h_x25
                  have h_x251 := get_lt h_x25
                  obtain ⟨iqp1087, rfl, q7, q0⟩ := rr_top q3 h_x25
                  obtain ⟨wp1088, hw_wp1088, os_wp1088⟩ := rr_row q3 h_x25
                  refine cw_reg_postK (fun t h => ∃ v7_3 : AV, ∃ w15 : AV, t 2 = .fp [.fs 5 (List.map eComb h_.Combs), .fs 3 (List.map eTrain h_.Trains), .fs 3 (List.map eShift h_.Shifts), I h_.Until] 0 ∧ t 3 = .fp [.fs 1 (List.map eI d.At), .fs 1 (List.map eL_I d.People), .fs 1 (List.map eL_I d.Walks)] 0 ∧ t 7 = v7_3 ∧ t 12 = v12_2 ∧ t 14 = I x_101 ∧ t 15 = w15 ∧ t 99 = v7_3 ∧ t 100 = I (List.length rows_7_1 : Int) ∧ t 101 = I x_101 ∧ RR h v7_3 hs7 1 eI rows_7_2 ∧ RR h v12_2 hs12_1 1 eI open_12 ∧ get hs7 x_101 = some w15 ∧ (∀ j, ¬RNot v12_2 hs12_1 j → RNot v7_3 hs7 j)) (fun K hK => ?_) ?_
                  · simp only [go_sem, s99, rr_len q3, s101, q7, q0, ielem_get h_x25, irow_get h_x25, h_x250, h_x251, ielem_get hw_wp1088, irow_get hw_wp1088, own_len os_wp1088, istr_of v7, istr_of v7_1, istr_of v12, istr_of v12_1, istr_of v12_2]
                    exact hK _ _ ⟨(.rs iqp1087 0 (List.length rows_7_2)), wp1088, s2, s3, (by first | (simp only [go_sem, s7, List.length_append, List.map_append]; done) | rfl), s12, (by first | (simp only [go_sem, List.length_append, List.map_append]; done) | rfl), (by first | (simp only [go_sem, List.length_append, List.map_append]; done) | rfl), (by first | (simp only [go_sem, s99, List.length_append, List.map_append]; done) | rfl), s100, s101, (rr_later q3 (by intro j hj  hl; first | rfl | simp only [go_sem, hl]) (by first | omega | exact Nat.le_refl _ | (simp only [go_sem, nxs] <;> omega))), qj, (by first | assumption | simp only [go_sem]), (fun j hj => (rs_o7_o12 j hj))⟩
                  · try clear s2 s3 s7 s12 s99 s100 s101 q3 qj rs_o7_o12 q7 q0
                    rintro t h ⟨v7_3, w15, s2, s3, s7, s12, s14, s15, s99, s100, s101, q3, qj, ra_15, rs_o7_o12⟩
                    have os_w15 := rr_al q3 ra_15 h_x25
                    refine cw_reg_postK (fun t h => ∃ w106 : AV, t 2 = .fp [.fs 5 (List.map eComb h_.Combs), .fs 3 (List.map eTrain h_.Trains), .fs 3 (List.map eShift h_.Shifts), I h_.Until] 0 ∧ t 3 = .fp [.fs 1 (List.map eI d.At), .fs 1 (List.map eL_I d.People), .fs 1 (List.map eL_I d.Walks)] 0 ∧ t 7 = v7_3 ∧ t 12 = v12_2 ∧ t 14 = I x_101 ∧ t 99 = v7_3 ∧ t 100 = I (List.length rows_7_1 : Int) ∧ t 101 = I x_101 ∧ t 106 = w106 ∧ t 107 = I (List.length x25 : Int) ∧ t 108 = I 0 ∧ RR h v7_3 hs7 1 eI rows_7_2 ∧ RR h v12_2 hs12_1 1 eI open_12 ∧ get hs7 x_101 = some w106 ∧ (∀ j, ¬RNot v12_2 hs12_1 j → RNot v7_3 hs7 j)) (fun K hK => ?_) ?_
                    · simp only [go_sem, s15, rr_len q3, own_len os_w15, ielem_get h_x25, irow_get h_x25, h_x250, h_x251, istr_of v7, istr_of v7_1, istr_of v12, istr_of v12_1, istr_of v12_2, istr_of v7_3, istr_of w15]
                      exact hK _ _ ⟨w15, s2, s3, s7, s12, s14, s99, s100, s101, (by first | (simp only [go_sem, List.length_append, List.map_append]; done) | rfl), (by first | (simp only [go_sem, List.length_append, List.map_append]; done) | rfl), (by first | (simp only [go_sem, List.length_append, List.map_append]; done) | rfl), (rr_later q3 (by intro j hj  hl; first | rfl | simp only [go_sem, hl]) (by first | omega | exact Nat.le_refl _ | (simp only [go_sem, nxs] <;> omega))), qj, (by first | assumption | simp only [go_sem]), (fun j hj => (rs_o7_o12 j hj))⟩
                    · try clear s2 s3 s7 s12 s14 s15 s99 s100 s101 q3 qj ra_15 rs_o7_o12
                      rintro t h ⟨w106, s2, s3, s7, s12, s14, s99, s100, s101, s106, s107, s108, q3, qj, ra_106, rs_o7_o12⟩
                      simp only [cw_block]
                      obtain ⟨b26, hl26, hm1⟩ := bind_get hm1
                      refine cw_loopM hl26 (fun | (rows_7_3, x_108), t, h => ∃ v7_4 : AV, ∃ v12_3 : AV, ∃ w106_1 : AV, t 2 = .fp [.fs 5 (List.map eComb h_.Combs), .fs 3 (List.map eTrain h_.Trains), .fs 3 (List.map eShift h_.Shifts), I h_.Until] 0 ∧ t 3 = .fp [.fs 1 (List.map eI d.At), .fs 1 (List.map eL_I d.People), .fs 1 (List.map eL_I d.Walks)] 0 ∧ t 7 = v7_4 ∧ t 12 = v12_3 ∧ t 14 = I x_101 ∧ t 99 = v7_4 ∧ t 100 = I (List.length rows_7_1 : Int) ∧ t 101 = I x_101 ∧ t 106 = w106_1 ∧ t 107 = I (List.length x25 : Int) ∧ t 108 = I x_108 ∧ RR h v7_4 hs7 1 eI rows_7_3 ∧ RR h v12_3 hs12_1 1 eI open_12 ∧ get hs7 x_101 = some w106_1 ∧ (∀ j, ¬RNot v12_3 hs12_1 j → RNot v7_4 hs7 j)) ?_ ?_
                      · exact ⟨v7_3, v12_2, w106, s2, s3, s7, s12, s14, s99, s100, s101, s106, s107, s108, q3, qj, (by first | assumption | simp only [go_sem]), (fun j hj => (rs_o7_o12 j hj))⟩
                      · try clear s2 s3 s7 s12 s14 s99 s100 s101 s106 s107 s108 q3 qj ra_106 rs_o7_o12
                        rintro ⟨rows_7_3, x_108⟩ o t h ⟨v7_4, v12_3, w106_1, s2, s3, s7, s12, s14, s99, s100, s101, s106, s107, s108, q3, qj, ra_106, rs_o7_o12⟩ hm2 hb26
                        simp only [halls_Play_L44] at hm2
                        rw [x_halls_Play_L44]
                        refine cw_reg_seq fun K hK => ?_
                        simp only [go_sem, s107, s108, istr_of v7, istr_of v7_1, istr_of v12, istr_of v12_1, istr_of v12_2, istr_of v7_3, istr_of w15, istr_of w106, istr_of v7_4, istr_of v12_3, istr_of w106_1]
                        refine hK _ _ ?_
                        clear hK K
                        refine cw_seq_k fun K27 hK27 => ?_
                        simp only [go_sem]
                        refine ibr_intro (fun hc28 => ?_) (fun hc28 => ?_)
                        · rw [if_t hc28] at hm2
                          simp only [cw_skip, qblock_normal, qseq_normal]
                          refine hK27 _ _ ?_
                          refine cw_seq_k fun K29 hK29 => ?_
                          have J30 : ∀ (rows_7_4 : List (List Int)) (v7_5 : AV) (v12_4 : AV) (w106_2 : AV) (t : Slots) (h : Heap), t 2 = .fp [.fs 5 (List.map eComb h_.Combs), .fs 3 (List.map eTrain h_.Trains), .fs 3 (List.map eShift h_.Shifts), I h_.Until] 0 → t 3 = .fp [.fs 1 (List.map eI d.At), .fs 1 (List.map eL_I d.People), .fs 1 (List.map eL_I d.Walks)] 0 → t 7 = v7_5 → t 12 = v12_4 → t 14 = I x_101 → t 99 = v7_5 → t 100 = I (List.length rows_7_1 : Int) → t 101 = I x_101 → t 106 = w106_2 → t 107 = I (List.length x25 : Int) → t 108 = I x_108 → RR h v7_5 hs7 1 eI rows_7_4 → RR h v12_4 hs12_1 1 eI open_12 → get hs7 x_101 = some w106_2 → (∀ j, ¬RNot v12_4 hs12_1 j → RNot v7_5 hs7 j) → halls_Play_j30 x_108 rows_7_4 = some o → K29 t h := by
                            try clear s2 s3 s7 s12 s14 s99 s100 s101 s106 s107 s108 q3 qj ra_106 rs_o7_o12
                            intro rows_7_4 v7_5 v12_4 w106_2 t h s2 s3 s7 s12 s14 s99 s100 s101 s106 s107 s108 q3 qj ra_106 rs_o7_o12 hm2
                            refine hK29 _ _ ?_
                            unfold halls_Play_j30 at hm2
                            refine cw_reg_k fun K hK => ?_
                            simp only [go_sem, s108, istr_of v7, istr_of v7_1, istr_of v12, istr_of v12_1, istr_of v12_2, istr_of v7_3, istr_of w15, istr_of w106, istr_of v7_4, istr_of v12_3, istr_of w106_1, istr_of v7_5, istr_of v12_4, istr_of w106_2]
                            refine hK _ _ ?_
                            clear hK K
                            simp only [qblock_normal, qseq_normal]
                            obtain rfl := Option.some.inj hm2
                            refine ⟨_, rfl, ?_⟩
                            exact ⟨v7_5, v12_4, w106_2, s2, s3, s7, s12, s14, s99, s100, s101, s106, s107, (by first | (simp only [go_sem, s108, List.length_append, List.map_append]; done) | rfl), q3, qj, (by first | assumption | simp only [go_sem]), (fun j hj => (rs_o7_o12 j hj))⟩
                          simp only [cw_block]
                          obtain ⟨x33, h_x33, hm2⟩ := bind_get hm2
                          have h_x330 := get_nn h_x33
                          have h_x331 := get_lt h_x33
                          have os_w106_1 := rr_al q3 ra_106 h_x33
                          obtain ⟨x34, h_x34, hm2⟩ := bind_get hm2
                          have h_x340 := get_nn h_x34
                          have h_x341 := get_lt h_x34
                          obtain ⟨irp1220, rfl, obr_irp1220, ltr_irp1220⟩ := own_get os_w106_1 h_x34
                          refine cw_reg_postK (fun t h => ∃ w106_2 : AV, t 2 = .fp [.fs 5 (List.map eComb h_.Combs), .fs 3 (List.map eTrain h_.Trains), .fs 3 (List.map eShift h_.Shifts), I h_.Until] 0 ∧ t 3 = .fp [.fs 1 (List.map eI d.At), .fs 1 (List.map eL_I d.People), .fs 1 (List.map eL_I d.Walks)] 0 ∧ t 7 = v7_4 ∧ t 12 = v12_3 ∧ t 14 = I x_101 ∧ t 16 = I x_108 ∧ t 17 = I x34 ∧ t 99 = v7_4 ∧ t 100 = I (List.length rows_7_1 : Int) ∧ t 101 = I x_101 ∧ t 106 = w106_2 ∧ t 107 = I (List.length x25 : Int) ∧ t 108 = I x_108 ∧ RR h v7_4 hs7 1 eI rows_7_3 ∧ RR h v12_3 hs12_1 1 eI open_12 ∧ get hs7 x_101 = some w106_2 ∧ (∀ j, ¬RNot v12_3 hs12_1 j → RNot v7_4 hs7 j)) (fun K hK => ?_) ?_
                          · simp only [go_sem, s106, rr_len q3, s108, ielem_get h_x33, irow_get h_x33, h_x330, h_x331, own_len os_w106_1, ielem_get h_x34, irow_get h_x34, h_x340, h_x341, obr_irp1220, ltr_irp1220, istr_of v7, istr_of v7_1, istr_of v12, istr_of v12_1, istr_of v12_2, istr_of v7_3, istr_of w15, istr_of w106, istr_of v7_4, istr_of v12_3]
                            exact hK _ _ ⟨(.rs irp1220 0 (List.length x33)), s2, s3, s7, s12, s14, (by first | (simp only [go_sem, List.length_append, List.map_append]; done) | rfl), (by first | (simp only [go_sem, List.length_append, List.map_append]; done) | rfl), s99, s100, s101, (by first | (simp only [go_sem, s106, List.length_append, List.map_append]; done) | rfl), s107, s108, (rr_later q3 (by intro j hj  hl; first | rfl | simp only [go_sem, hl]) (by first | omega | exact Nat.le_refl _ | (simp only [go_sem, nxs] <;> omega))), qj, (by first | assumption | simp only [go_sem]), (fun j hj => (rs_o7_o12 j hj))⟩
                          · try clear s2 s3 s7 s12 s14 s99 s100 s101 s106 s107 s108 q3 qj ra_106 rs_o7_o12
                            rintro t h ⟨w106_2, s2, s3, s7, s12, s14, s16, s17, s99, s100, s101, s106, s107, s108, q3, qj, ra_106, rs_o7_o12⟩
                            obtain ⟨x37, h_x37, hm2⟩ := bind_get hm2
                            have h_x370 := get_nn h_x37
                            have h_x371 := get_lt h_x37
                            obtain ⟨iqp1224, rfl, q10, qy⟩ := rr_top qj h_x37
                            obtain ⟨wp1225, hw_wp1225, os_wp1225⟩ := rr_row qj h_x37
                            obtain ⟨x38, h_x38, hm2⟩ := bind_get hm2
                            have h_x380 := get_nn h_x38
                            have h_x381 := get_lt h_x38
                            obtain ⟨irp1226, rfl, obr_irp1226, ltr_irp1226⟩ := own_get os_wp1225 h_x38
                            refine cw_reg_postK (fun t h => ∃ v12_4 : AV, ∃ w106_3 : AV, t 2 = .fp [.fs 5 (List.map eComb h_.Combs), .fs 3 (List.map eTrain h_.Trains), .fs 3 (List.map eShift h_.Shifts), I h_.Until] 0 ∧ t 3 = .fp [.fs 1 (List.map eI d.At), .fs 1 (List.map eL_I d.People), .fs 1 (List.map eL_I d.Walks)] 0 ∧ t 7 = v7_4 ∧ t 12 = v12_4 ∧ t 14 = I x_101 ∧ t 16 = I x_108 ∧ t 17 = I x34 ∧ t 18 = I (mn x34 x38) ∧ t 99 = v7_4 ∧ t 100 = I (List.length rows_7_1 : Int) ∧ t 101 = I x_101 ∧ t 106 = w106_3 ∧ t 107 = I (List.length x25 : Int) ∧ t 108 = I x_108 ∧ RR h v7_4 hs7 1 eI rows_7_3 ∧ RR h v12_4 hs12_1 1 eI open_12 ∧ get hs7 x_101 = some w106_3 ∧ (∀ j, ¬RNot v12_4 hs12_1 j → RNot v7_4 hs7 j)) (fun K hK => ?_) ?_
                            · simp only [go_sem, s12, rr_len qj, s14, s16, s17, q10, qy, ielem_get h_x37, irow_get h_x37, h_x370, h_x371, ielem_get hw_wp1225, irow_get hw_wp1225, own_len os_wp1225, ielem_get h_x38, irow_get h_x38, h_x380, h_x381, obr_irp1226, ltr_irp1226, istr_of v7, istr_of v7_1, istr_of v12, istr_of v12_1, istr_of v12_2, istr_of v7_3, istr_of w15, istr_of w106, istr_of v7_4, istr_of w106_2]
                              exact hK _ _ ⟨(.rs iqp1224 0 (List.length open_12)), w106_2, s2, s3, s7, (by first | (simp only [go_sem, s12, List.length_append, List.map_append]; done) | rfl), s14, s16, s17, (by first | (simp only [go_sem, List.length_append, List.map_append]; done) | rfl), s99, s100, s101, s106, s107, s108, q3, (rr_later qj (by intro j hj  hl; first | rfl | simp only [go_sem, hl]) (by first | omega | exact Nat.le_refl _ | (simp only [go_sem, nxs] <;> omega))), (by first | assumption | simp only [go_sem]), (fun j hj => (rs_o7_o12 j hj))⟩
                            · try clear s2 s3 s7 s12 s14 s16 s17 s99 s100 s101 s106 s107 s108 q3 qj ra_106 rs_o7_o12 q10 qy
                              rintro t h ⟨v12_4, w106_3, s2, s3, s7, s12, s14, s16, s17, s18, s99, s100, s101, s106, s107, s108, q3, qj, ra_106, rs_o7_o12⟩
                              refine cw_assoc ?_
                              refine cw_reg_seq fun K hK => ?_
                              simp only [go_sem, s2, s14, istr_of v7, istr_of v7_1, istr_of v12, istr_of v12_1, istr_of v12_2, istr_of v7_3, istr_of w15, istr_of w106, istr_of v7_4, istr_of w106_2, istr_of v12_4, istr_of w106_3]
                              refine hK _ _ ?_
                              clear hK K
                              refine cw_seq_k fun K39 hK39 => ?_
                              have J40 : ∀ (rows_7_4 : List (List Int)) (v7_5 : AV) (w106_4 : AV) (t : Slots) (h : Heap), t 2 = .fp [.fs 5 (List.map eComb h_.Combs), .fs 3 (List.map eTrain h_.Trains), .fs 3 (List.map eShift h_.Shifts), I h_.Until] 0 → t 3 = .fp [.fs 1 (List.map eI d.At), .fs 1 (List.map eL_I d.People), .fs 1 (List.map eL_I d.Walks)] 0 → t 7 = v7_5 → t 12 = v12_4 → t 14 = I x_101 → t 16 = I x_108 → t 18 = I (mn x34 x38) → t 99 = v7_5 → t 100 = I (List.length rows_7_1 : Int) → t 101 = I x_101 → t 106 = w106_4 → t 107 = I (List.length x25 : Int) → t 108 = I x_108 → RR h v7_5 hs7 1 eI rows_7_4 → RR h v12_4 hs12_1 1 eI open_12 → get hs7 x_101 = some w106_4 → (∀ j, ¬RNot v12_4 hs12_1 j → RNot v7_5 hs7 j) → halls_Play_j40 h_ d x_101 x_108 x34 x38 rows_7_4 = some o → K39 t h := by
                                try clear s2 s3 s7 s12 s14 s16 s17 s18 s99 s100 s101 s106 s107 s108 q3 qj ra_106 rs_o7_o12
                                intro rows_7_4 v7_5 w106_4 t h s2 s3 s7 s12 s14 s16 s18 s99 s100 s101 s106 s107 s108 q3 qj ra_106 rs_o7_o12 hm2
                                refine hK39 _ _ ?_
                                unfold halls_Play_j40 at hm2
                                obtain ⟨x44, h_x44, hm2⟩ := bind_get hm2
                                have h_x440 := get_nn h_x44
                                have h_x441 := get_lt h_x44
                                obtain ⟨q45, h_q45, hm2⟩ := bind_get hm2
                                obtain ⟨x46, h_x46, hm2⟩ := bind_get hm2
                                have h_x460 := get_nn h_x46
                                have h_x461 := get_lt h_x46
                                refine cw_reg_seq fun K hK => ?_
                                simp only [go_sem, s3, s14, s16, ielem_get h_x44, irow_get h_x44, h_x440, h_x441, ibin_rem h_q45, ielem_get h_x46, irow_get h_x46, h_x460, h_x461, istr_of v7, istr_of v7_1, istr_of v12, istr_of v12_1, istr_of v12_2, istr_of v7_3, istr_of w15, istr_of w106, istr_of v7_4, istr_of w106_2, istr_of v12_4, istr_of w106_3, istr_of v7_5, istr_of w106_4]
                                refine hK _ _ ?_
                                clear hK K
                                obtain ⟨x48, h_x48, hm2⟩ := bind_get hm2
                                have h_x480 := get_nn h_x48
                                have h_x481 := get_lt h_x48
                                refine cw_reg_seq fun K hK => ?_
                                simp only [go_sem, s2, s16, ielem_get h_x48, irow_get h_x48, h_x480, h_x481, istr_of v7, istr_of v7_1, istr_of v12, istr_of v12_1, istr_of v12_2, istr_of v7_3, istr_of w15, istr_of w106, istr_of v7_4, istr_of w106_2, istr_of v12_4, istr_of w106_3, istr_of v7_5, istr_of w106_4]
                                refine hK _ _ ?_
                                clear hK K
                                refine cw_reg_postK (fun t h => ∃ w106_5 : AV, t 2 = .fp [.fs 5 (List.map eComb h_.Combs), .fs 3 (List.map eTrain h_.Trains), .fs 3 (List.map eShift h_.Shifts), I h_.Until] 0 ∧ t 3 = .fp [.fs 1 (List.map eI d.At), .fs 1 (List.map eL_I d.People), .fs 1 (List.map eL_I d.Walks)] 0 ∧ t 7 = v7_5 ∧ t 12 = v12_4 ∧ t 14 = I x_101 ∧ t 18 = I (mn x34 x38) ∧ t 19 = I x46 ∧ t 20 = I x48.Next ∧ t 99 = v7_5 ∧ t 100 = I (List.length rows_7_1 : Int) ∧ t 101 = I x_101 ∧ t 106 = w106_5 ∧ t 107 = I (List.length x25 : Int) ∧ t 108 = I x_108 ∧ t 170 = B ((decide (0 ≤ x48.Next)) && (decide ((wr (x_101 + x46)) < h_.Until))) ∧ RR h v7_5 hs7 1 eI rows_7_4 ∧ RR h v12_4 hs12_1 1 eI open_12 ∧ get hs7 x_101 = some w106_5 ∧ (∀ j, ¬RNot v12_4 hs12_1 j → RNot v7_5 hs7 j)) (fun K hK => ?_) ?_
                                · simp only [go_sem, s2, s14, istr_of v7, istr_of v7_1, istr_of v12, istr_of v12_1, istr_of v12_2, istr_of v7_3, istr_of w15, istr_of w106, istr_of v7_4, istr_of w106_2, istr_of v12_4, istr_of w106_3, istr_of v7_5, istr_of w106_4]
                                  refine ibr_intro (fun hg49 => ?_) (fun hg49 => ?_)
                                  · simp only [go_sem, s2, s14, hg49, istr_of v7, istr_of v7_1, istr_of v12, istr_of v12_1, istr_of v12_2, istr_of v7_3, istr_of w15, istr_of w106, istr_of v7_4, istr_of w106_2, istr_of v12_4, istr_of w106_3, istr_of v7_5, istr_of w106_4]
                                    exact hK _ _ ⟨w106_4, s2, s3, s7, s12, s14, s18, (by first | (simp only [go_sem, hg49, List.length_append, List.map_append]; done) | rfl), (by first | (simp only [go_sem, hg49, List.length_append, List.map_append]; done) | rfl), s99, s100, s101, s106, s107, s108, (by first | (simp only [go_sem, hg49, List.length_append, List.map_append]; done) | rfl), q3, qj, (by first | assumption | simp only [go_sem]), (fun j hj => (rs_o7_o12 j hj))⟩
                                  · simp only [go_sem, s2, s14, hg49, istr_of v7, istr_of v7_1, istr_of v12, istr_of v12_1, istr_of v12_2, istr_of v7_3, istr_of w15, istr_of w106, istr_of v7_4, istr_of w106_2, istr_of v12_4, istr_of w106_3, istr_of v7_5, istr_of w106_4]
                                    exact hK _ _ ⟨w106_4, s2, s3, s7, s12, s14, s18, (by first | (simp only [go_sem, hg49, List.length_append, List.map_append]; done) | rfl), (by first | (simp only [go_sem, hg49, List.length_append, List.map_append]; done) | rfl), s99, s100, s101, s106, s107, s108, (by first | (simp only [go_sem, hg49, List.length_append, List.map_append]; done) | rfl), q3, qj, (by first | assumption | simp only [go_sem]), (fun j hj => (rs_o7_o12 j hj))⟩
                                · try clear s2 s3 s7 s12 s14 s16 s18 s99 s100 s101 s106 s107 s108 q3 qj ra_106 rs_o7_o12
                                  rintro t h ⟨w106_5, s2, s3, s7, s12, s14, s18, s19, s20, s99, s100, s101, s106, s107, s108, s170, q3, qj, ra_106, rs_o7_o12⟩
                                  simp only [go_sem, s170]
                                  refine ibr_intro (fun hc50 => ?_) (fun hc50 => ?_)
                                  · rw [if_t hc50] at hm2
                                    obtain ⟨x53, h_x53, hm2⟩ := bind_get hm2
                                    have h_x530 := get_nn h_x53
                                    have h_x531 := get_lt h_x53
                                    obtain ⟨iqp1236, rfl, q7, q0⟩ := rr_top q3 h_x53
                                    obtain ⟨wp1237, hw_wp1237, os_wp1237⟩ := rr_row q3 h_x53
                                    obtain ⟨x54, h_x54, hm2⟩ := bind_get hm2
                                    have h_x540 := get_nn h_x54
                                    have h_x541 := get_lt h_x54
                                    obtain ⟨irp1238, rfl, obr_irp1238, ltr_irp1238⟩ := own_get os_wp1237 h_x54
                                    refine cw_reg_postK1 (fun t h => ∃ v7_6 : AV, ∃ w106_6 : AV, t 2 = .fp [.fs 5 (List.map eComb h_.Combs), .fs 3 (List.map eTrain h_.Trains), .fs 3 (List.map eShift h_.Shifts), I h_.Until] 0 ∧ t 3 = .fp [.fs 1 (List.map eI d.At), .fs 1 (List.map eL_I d.People), .fs 1 (List.map eL_I d.Walks)] 0 ∧ t 7 = v7_6 ∧ t 12 = v12_4 ∧ t 14 = I x_101 ∧ t 99 = v7_6 ∧ t 100 = I (List.length rows_7_1 : Int) ∧ t 101 = I x_101 ∧ t 106 = w106_6 ∧ t 107 = I (List.length x25 : Int) ∧ t 108 = I x_108 ∧ RR h v7_6 hs7 1 eI (List.set rows_7_4 (Int.toNat (wr (x_101 + x46))) (List.set x53 (Int.toNat x48.Next) (wr (x54 + (mn x34 x38))))) ∧ RR h v12_4 hs12_1 1 eI open_12 ∧ get hs7 x_101 = some w106_6 ∧ (∀ j, ¬RNot v12_4 hs12_1 j → RNot v7_6 hs7 j)) (fun K hK => ?_) ?_
                                    · simp only [go_sem, s7, rr_len q3, s14, s18, s19, s20, q7, q0, ielem_get h_x53, irow_get h_x53, h_x530, h_x531, ielem_get hw_wp1237, irow_get hw_wp1237, own_len os_wp1237, ielem_get h_x54, irow_get h_x54, h_x540, h_x541, obr_irp1238, ltr_irp1238, istr_of v7, istr_of v7_1, istr_of v12, istr_of v12_1, istr_of v12_2, istr_of v7_3, istr_of w15, istr_of w106, istr_of v7_4, istr_of w106_2, istr_of v12_4, istr_of w106_3, istr_of w106_4, istr_of w106_5]
                                      exact hK _ _ ⟨(.rs iqp1236 0 (List.length rows_7_4)), w106_5, s2, s3, (by first | (simp only [go_sem, s7, List.length_append, List.map_append]; done) | rfl), s12, s14, (by first | (simp only [go_sem, s99, List.length_append, List.map_append]; done) | rfl), s100, s101, s106, s107, s108, (rr_upd q3 h_x53 hw_wp1237 (by simp only [go_sem, rr_lates q3, q7, q0, rr_top_ne q3 hw_wp1237, nsym (rr_top_ne q3 hw_wp1237), List.length_append, List.map_append]) (by simp only [List.length_set]) (by intro j hj hne hl; first | rfl | simp only [go_sem, hne, hl, q0]) (by first | omega | exact Nat.le_refl _ | (simp only [go_sem, nxs] <;> omega))), (rr_later qj (by intro j hj  hl; first | rfl | simp only [go_sem, hl, rn_top (rs_o7_o12 j hj), rn_ne0 (rs_o7_o12 j hj), nsym (rn_ne0 (rs_o7_o12 j hj)), rn_ne (rs_o7_o12 j hj) hw_wp1237, nsym (rn_ne (rs_o7_o12 j hj) hw_wp1237), q0]) (by first | omega | exact Nat.le_refl _ | (simp only [go_sem, nxs] <;> omega))), (by first | assumption | simp only [go_sem]), (fun j hj => (rs_o7_o12 j hj))⟩
                                    · try clear s2 s3 s7 s12 s14 s18 s19 s20 s99 s100 s101 s106 s107 s108 s170 q3 qj ra_106 rs_o7_o12 q7 q0
                                      rintro t h ⟨v7_6, w106_6, s2, s3, s7, s12, s14, s99, s100, s101, s106, s107, s108, q3, qj, ra_106, rs_o7_o12⟩
                                      simp only [qblock_normal, qseq_normal]
                                      exact J30 (List.set rows_7_4 (Int.toNat (wr (x_101 + x46))) (List.set x53 (Int.toNat x48.Next) (wr (x54 + (mn x34 x38))))) v7_6 v12_4 w106_6 _ _ s2 s3 s7 s12 s14 s99 s100 s101 s106 s107 s108 q3 qj (by first | assumption | simp only [go_sem]) (fun j hj => (rs_o7_o12 j hj)) hm2
                                  · rw [if_f hc50] at hm2
                                    simp only [cw_skip, qblock_normal, qseq_normal]
                                    exact J30 rows_7_4 v7_5 v12_4 w106_5 _ _ s2 s3 s7 s12 s14 s99 s100 s101 s106 s107 s108 q3 qj (by first | assumption | simp only [go_sem]) (fun j hj => (rs_o7_o12 j hj)) hm2
                              simp only [go_sem]
                              refine ibr_intro (fun hc55 => ?_) (fun hc55 => ?_)
                              · rw [if_t hc55] at hm2
                                obtain ⟨x58, h_x58, hm2⟩ := bind_get hm2
                                have h_x580 := get_nn h_x58
                                have h_x581 := get_lt h_x58
                                obtain ⟨iqp1242, rfl, q7, q0⟩ := rr_top q3 h_x58
                                obtain ⟨wp1243, hw_wp1243, os_wp1243⟩ := rr_row q3 h_x58
                                obtain ⟨x59, h_x59, hm2⟩ := bind_get hm2
                                have h_x590 := get_nn h_x59
                                have h_x591 := get_lt h_x59
                                obtain ⟨irp1244, rfl, obr_irp1244, ltr_irp1244⟩ := own_get os_wp1243 h_x59
                                refine cw_reg_postK1 (fun t h => ∃ v7_5 : AV, ∃ w106_4 : AV, t 2 = .fp [.fs 5 (List.map eComb h_.Combs), .fs 3 (List.map eTrain h_.Trains), .fs 3 (List.map eShift h_.Shifts), I h_.Until] 0 ∧ t 3 = .fp [.fs 1 (List.map eI d.At), .fs 1 (List.map eL_I d.People), .fs 1 (List.map eL_I d.Walks)] 0 ∧ t 7 = v7_5 ∧ t 12 = v12_4 ∧ t 14 = I x_101 ∧ t 16 = I x_108 ∧ t 18 = I (mn x34 x38) ∧ t 99 = v7_5 ∧ t 100 = I (List.length rows_7_1 : Int) ∧ t 101 = I x_101 ∧ t 106 = w106_4 ∧ t 107 = I (List.length x25 : Int) ∧ t 108 = I x_108 ∧ RR h v7_5 hs7 1 eI (List.set rows_7_3 (Int.toNat (wr (x_101 + 1))) (List.set x58 (Int.toNat x_108) (wr (x59 + (wr (x34 - (mn x34 x38))))))) ∧ RR h v12_4 hs12_1 1 eI open_12 ∧ get hs7 x_101 = some w106_4 ∧ (∀ j, ¬RNot v12_4 hs12_1 j → RNot v7_5 hs7 j)) (fun K hK => ?_) ?_
                                · simp only [go_sem, s7, rr_len q3, s14, s16, s17, s18, q7, q0, ielem_get h_x58, irow_get h_x58, h_x580, h_x581, ielem_get hw_wp1243, irow_get hw_wp1243, own_len os_wp1243, ielem_get h_x59, irow_get h_x59, h_x590, h_x591, obr_irp1244, ltr_irp1244, istr_of v7, istr_of v7_1, istr_of v12, istr_of v12_1, istr_of v12_2, istr_of v7_3, istr_of w15, istr_of w106, istr_of w106_2, istr_of v12_4, istr_of w106_3]
                                  exact hK _ _ ⟨(.rs iqp1242 0 (List.length rows_7_3)), w106_3, s2, s3, (by first | (simp only [go_sem, s7, List.length_append, List.map_append]; done) | rfl), s12, s14, s16, s18, (by first | (simp only [go_sem, s99, List.length_append, List.map_append]; done) | rfl), s100, s101, s106, s107, s108, (rr_upd q3 h_x58 hw_wp1243 (by simp only [go_sem, rr_lates q3, q7, q0, rr_top_ne q3 hw_wp1243, nsym (rr_top_ne q3 hw_wp1243), List.length_append, List.map_append]) (by simp only [List.length_set]) (by intro j hj hne hl; first | rfl | simp only [go_sem, hne, hl, q0]) (by first | omega | exact Nat.le_refl _ | (simp only [go_sem, nxs] <;> omega))), (rr_later qj (by intro j hj  hl; first | rfl | simp only [go_sem, hl, rn_top (rs_o7_o12 j hj), rn_ne0 (rs_o7_o12 j hj), nsym (rn_ne0 (rs_o7_o12 j hj)), rn_ne (rs_o7_o12 j hj) hw_wp1243, nsym (rn_ne (rs_o7_o12 j hj) hw_wp1243), q0]) (by first | omega | exact Nat.le_refl _ | (simp only [go_sem, nxs] <;> omega))), (by first | assumption | simp only [go_sem]), (fun j hj => (rs_o7_o12 j hj))⟩
                                · try clear s2 s3 s7 s12 s14 s16 s17 s18 s99 s100 s101 s106 s107 s108 q3 qj ra_106 rs_o7_o12 q7 q0
                                  rintro t h ⟨v7_5, w106_4, s2, s3, s7, s12, s14, s16, s18, s99, s100, s101, s106, s107, s108, q3, qj, ra_106, rs_o7_o12⟩
                                  simp only [qblock_normal, qseq_normal]
                                  exact J40 (List.set rows_7_3 (Int.toNat (wr (x_101 + 1))) (List.set x58 (Int.toNat x_108) (wr (x59 + (wr (x34 - (mn x34 x38))))))) v7_5 w106_4 _ _ s2 s3 s7 s12 s14 s16 s18 s99 s100 s101 s106 s107 s108 q3 qj (by first | assumption | simp only [go_sem]) (fun j hj => (rs_o7_o12 j hj)) hm2
                              · rw [if_f hc55] at hm2
                                simp only [cw_skip, qblock_normal, qseq_normal]
                                exact J40 rows_7_3 v7_4 w106_3 _ _ s2 s3 s7 s12 s14 s16 s18 s99 s100 s101 s106 s107 s108 q3 qj (by first | assumption | simp only [go_sem]) (fun j hj => (rs_o7_o12 j hj)) hm2
                        · rw [if_f hc28] at hm2
                          simp only [cw_exit, qseq_exit, qblock_same, qblock_ne, qblock_normal, qseq_normal, Nat.reduceEqDiff, not_false_eq_true]
                          obtain rfl := Option.some.inj hm2
                          obtain rfl := hb26 _ rfl
                          try dsimp only at hm1
                          exact J23 rows_7_3 v7_4 v12_3 _ _ s2 s3 s7 s12 s99 s100 s101 q3 qj (fun j hj => (rs_o7_o12 j hj)) hm1
                · rw [if_f hc21] at hm1
                  simp only [cw_exit, qseq_exit, qblock_same, qblock_ne, qblock_normal, qseq_normal, Nat.reduceEqDiff, not_false_eq_true]
                  obtain rfl := Option.some.inj hm1
                  obtain rfl := hb19 _ rfl
                  try dsimp only at hm0
                  exact J18 rows_7_2 v7_2 _ _ s7 q3 hm0
            simp only [cw_block]
            obtain ⟨b62, hl62, hm0⟩ := bind_get hm0
            refine cw_loopM hl62 (fun | (open_12, x_89), t, h => ∃ v12_1 : AV, ∃ hs12_1 : List AV, t 2 = .fp [.fs 5 (List.map eComb h_.Combs), .fs 3 (List.map eTrain h_.Trains), .fs 3 (List.map eShift h_.Shifts), I h_.Until] 0 ∧ t 3 = .fp [.fs 1 (List.map eI d.At), .fs 1 (List.map eL_I d.People), .fs 1 (List.map eL_I d.Walks)] 0 ∧ t 7 = v7_1 ∧ t 12 = v12_1 ∧ t 88 = I (List.length h_.Combs : Int) ∧ t 89 = I x_89 ∧ RR h v7_1 hs7 1 eI rows_7_1 ∧ RR h v12_1 hs12_1 1 eI open_12 ∧ (∀ j, ¬RNot v12_1 hs12_1 j → RNot v7_1 hs7 j)) ?_ ?_
            · exact ⟨v12, hs12, s2, s3, s7, s12, (by first | (simp only [go_sem, List.length_append, List.map_append]; done) | rfl), (by first | (simp only [go_sem, List.length_append, List.map_append]; done) | rfl), q3, qj, (fun j hj => (rs_o7_o12 j hj))⟩
            · rintro ⟨open_12, x_89⟩ o t h ⟨v12_1, hs12_1, s2, s3, s7, s12, s88, s89, q3, qj, rs_o7_o12⟩ hm1 hb62
              simp only [halls_Play_L29] at hm1
              rw [x_halls_Play_L29]
              refine cw_reg_seq fun K hK => ?_
              simp only [go_sem, s88, s89, istr_of v7, istr_of v7_1, istr_of v12, istr_of v12_1]
              refine hK _ _ ?_
              clear hK K
              refine cw_seq_k fun K63 hK63 => ?_
              simp only [go_sem]
              refine ibr_intro (fun hc64 => ?_) (fun hc64 => ?_)
              · rw [if_t hc64] at hm1
                simp only [cw_skip, qblock_normal, qseq_normal]
                refine hK63 _ _ ?_
                refine cw_seq_k fun K65 hK65 => ?_
                simp only [cw_block]
                refine cw_reg_seq fun K hK => ?_
                simp only [go_sem, s89, istr_of v7, istr_of v7_1, istr_of v12, istr_of v12_1]
                refine hK _ _ ?_
                clear hK K
                obtain ⟨y68, h_y68, hm1⟩ := bind_get hm1
                obtain ⟨x69, h_x69, hm1⟩ := bind_get hm1
                have h_x690 := get_nn h_x69
                have h_x691 := get_lt h_x69
                obtain ⟨iqp1267, rfl, q10, qy⟩ := rr_top qj h_x69
                obtain ⟨wp1268, hw_wp1268, os_wp1268⟩ := rr_row qj h_x69
                refine cw_reg_postK1 (fun t h => ∃ v12_2 : AV, ∃ hs12_2 : List AV, t 2 = .fp [.fs 5 (List.map eComb h_.Combs), .fs 3 (List.map eTrain h_.Trains), .fs 3 (List.map eShift h_.Shifts), I h_.Until] 0 ∧ t 3 = .fp [.fs 1 (List.map eI d.At), .fs 1 (List.map eL_I d.People), .fs 1 (List.map eL_I d.Walks)] 0 ∧ t 7 = v7_1 ∧ t 12 = v12_2 ∧ t 88 = I (List.length h_.Combs : Int) ∧ t 89 = I x_89 ∧ RR h v7_1 hs7 1 eI rows_7_1 ∧ RR h v12_2 hs12_2 1 eI (List.set open_12 (Int.toNat x_89) y68) ∧ (∀ j, ¬RNot v12_2 hs12_2 j → RNot v7_1 hs7 j)) (fun K hK => ?_) ?_
                · simp only [go_sem, s2, s12, rr_len qj, q10, qy, ielem_get h_x69, irow_get h_x69, h_x690, h_x691, ielem_get hw_wp1268, irow_get hw_wp1268, own_len os_wp1268, istr_of v7, istr_of v7_1, istr_of v12]
                  refine icall_ow (e := eI) (l := y68) ?_ (k_halls_rates h_ x_89 _ h_y68) ?_
                  · exact .cons (.refl _ (.agg _ (fz_cons (frz_fs fun a _ => fz_eComb a) (fz_cons (frz_fs fun a _ => fz_eTrain a) (fz_cons (frz_fs fun a _ => fz_eShift a) (fz_cons (frz_v _) fz_nil)))))) (.cons (.refl _ (frz_v _)) (.nil))
                  simp only [go_sem, s2, s12, rr_len qj, q10, qy, ielem_get h_x69, irow_get h_x69, h_x690, h_x691, ielem_get hw_wp1268, irow_get hw_wp1268, own_len os_wp1268, istr_of v7, istr_of v7_1, istr_of v12]
                  exact hK _ _ ⟨(.rs iqp1267 0 (List.length open_12)), (List.set hs12_1 (Int.toNat x_89) (.rs h.nx 0 (List.length y68))), s2, s3, s7, (by first | (simp only [go_sem, s12, List.length_append, List.map_append]; done) | rfl), s88, s89, (rr_later q3 (by intro j hj  hl; first | rfl | simp only [go_sem, hl, rn_top (rr_sym rs_o7_o12 j hj), rn_ne0 (rr_sym rs_o7_o12 j hj), nsym (rn_ne0 (rr_sym rs_o7_o12 j hj)), qy]) (by first | omega | exact Nat.le_refl _ | (simp only [go_sem, nxs] <;> omega))), (rr_put qj h_x69 (by simp only [go_sem, rr_lates qj, q10, qy, List.length_append, List.map_append]) (own_rs (by simp only [go_sem, rr_lates qj, qy, List.length_append, List.map_append]) (by simp only [go_sem, rr_lates qj, qy, List.length_append, List.map_append]) (by simp only [go_sem])) (dr_rs (by first | assumption | exact rr_late qj (by first | omega | (simp only [nxs] <;> omega)))) (by intro j hj hne hl; first | rfl | simp only [go_sem, hne, hl, qy]) (by first | omega | exact Nat.le_refl _ | (simp only [go_sem, nxs] <;> omega))), (rr_sym (fun j hj => (rnot_put (rr_sym rs_o7_o12 j hj) (by first | exact notid_nil | exact notid_rs (nsym (rr_ne hj (by first | assumption | exact rr_late (by assumption) (by first | assumption | omega | (simp only [nxs] <;> omega))))) | exact rm_sym (by assumption) j hj))))⟩
                · try clear s2 s3 s7 s12 s88 s89 q3 qj rs_o7_o12 q10 qy
                  rintro t h ⟨v12_2, hs12_2, s2, s3, s7, s12, s88, s89, q3, qj, rs_o7_o12⟩
                  simp only [qblock_normal, qseq_normal]
                  refine hK65 _ _ ?_
                  refine cw_reg_k fun K hK => ?_
                  simp only [go_sem, s89, istr_of v7, istr_of v7_1, istr_of v12, istr_of v12_2]
                  refine hK _ _ ?_
                  clear hK K
                  simp only [qblock_normal, qseq_normal]
                  obtain rfl := Option.some.inj hm1
                  refine ⟨_, rfl, ?_⟩
                  exact ⟨v12_2, hs12_2, s2, s3, s7, s12, s88, (by first | (simp only [go_sem, s89, List.length_append, List.map_append]; done) | rfl), q3, qj, (fun j hj => (rs_o7_o12 j hj))⟩
              · rw [if_f hc64] at hm1
                simp only [cw_exit, qseq_exit, qblock_same, qblock_ne, qblock_normal, qseq_normal, Nat.reduceEqDiff, not_false_eq_true]
                obtain rfl := Option.some.inj hm1
                obtain rfl := hb62 _ rfl
                try dsimp only at hm0
                exact J16 open_12 v12_1 hs12_1 _ _ s2 s3 s7 s12 q3 qj (fun j hj => (rs_o7_o12 j hj)) hm0
        simp only [cw_block]
        obtain ⟨b71, hl71, hm0⟩ := bind_get hm0
        refine cw_loopM hl71 (fun | (rows_7_1, x_45), t, h => ∃ v7_1 : AV, t 2 = .fp [.fs 5 (List.map eComb h_.Combs), .fs 3 (List.map eTrain h_.Trains), .fs 3 (List.map eShift h_.Shifts), I h_.Until] 0 ∧ t 3 = .fp [.fs 1 (List.map eI d.At), .fs 1 (List.map eL_I d.People), .fs 1 (List.map eL_I d.Walks)] 0 ∧ t 7 = v7_1 ∧ t 43 = .fs 3 (List.map eTrain h_.Trains) ∧ t 44 = I (List.length h_.Trains : Int) ∧ t 45 = I x_45 ∧ RR h v7_1 hs7 1 eI rows_7_1) ?_ ?_
        · exact ⟨v7, s2, s3, s7, (by first | (simp only [go_sem, List.length_append, List.map_append]; done) | rfl), (by first | (simp only [go_sem, List.length_append, List.map_append]; done) | rfl), (by first | (simp only [go_sem, List.length_append, List.map_append]; done) | rfl), q3⟩
        · rintro ⟨rows_7_1, x_45⟩ o t h ⟨v7_1, s2, s3, s7, s43, s44, s45, q3⟩ hm1 hb71
          simp only [halls_Play_L22] at hm1
          rw [x_halls_Play_L22]
          refine cw_reg_seq fun K hK => ?_
          simp only [go_sem, s44, s45, istr_of v7, istr_of v7_1]
          refine hK _ _ ?_
          clear hK K
          refine cw_seq_k fun K72 hK72 => ?_
          simp only [go_sem]
          refine ibr_intro (fun hc73 => ?_) (fun hc73 => ?_)
          · rw [if_t hc73] at hm1
            simp only [cw_skip, qblock_normal, qseq_normal]
            refine hK72 _ _ ?_
            refine cw_seq_k fun K74 hK74 => ?_
            have J75 : ∀ (rows_7_2 : List (List Int)) (v7_2 : AV) (t : Slots) (h : Heap), t 2 = .fp [.fs 5 (List.map eComb h_.Combs), .fs 3 (List.map eTrain h_.Trains), .fs 3 (List.map eShift h_.Shifts), I h_.Until] 0 → t 3 = .fp [.fs 1 (List.map eI d.At), .fs 1 (List.map eL_I d.People), .fs 1 (List.map eL_I d.Walks)] 0 → t 7 = v7_2 → t 43 = .fs 3 (List.map eTrain h_.Trains) → t 44 = I (List.length h_.Trains : Int) → t 45 = I x_45 → RR h v7_2 hs7 1 eI rows_7_2 → halls_Play_j75 x_45 rows_7_2 = some o → K74 t h := by
              intro rows_7_2 v7_2 t h s2 s3 s7 s43 s44 s45 q3 hm1
              refine hK74 _ _ ?_
              unfold halls_Play_j75 at hm1
              refine cw_reg_k fun K hK => ?_
              simp only [go_sem, s45, istr_of v7, istr_of v7_1, istr_of v7_2]
              refine hK _ _ ?_
              clear hK K
              simp only [qblock_normal, qseq_normal]
              obtain rfl := Option.some.inj hm1
              refine ⟨_, rfl, ?_⟩
              exact ⟨v7_2, s2, s3, s7, s43, s44, (by first | (simp only [go_sem, s45, List.length_append, List.map_append]; done) | rfl), q3⟩
            simp only [cw_block]
            obtain ⟨x77, h_x77, hm1⟩ := bind_get hm1
            have h_x770 := get_nn h_x77
            have h_x771 := get_lt h_x77
            refine cw_reg_seq fun K hK => ?_
            simp only [go_sem, s43, s45, ielem_get h_x77, irow_get h_x77, h_x770, h_x771, istr_of v7, istr_of v7_1]
            refine hK _ _ ?_
            clear hK K
            refine cw_reg_seq fun K hK => ?_
            simp only [go_sem, istr_of v7, istr_of v7_1]
            refine hK _ _ ?_
            clear hK K
            simp only [cw_block]
            obtain ⟨b78, hl78, hm1⟩ := bind_get hm1
            refine cw_loopM hl78 (fun | (rows_7_2, x_53), t, h => ∃ v7_2 : AV, t 2 = .fp [.fs 5 (List.map eComb h_.Combs), .fs 3 (List.map eTrain h_.Trains), .fs 3 (List.map eShift h_.Shifts), I h_.Until] 0 ∧ t 3 = .fp [.fs 1 (List.map eI d.At), .fs 1 (List.map eL_I d.People), .fs 1 (List.map eL_I d.Walks)] 0 ∧ t 7 = v7_2 ∧ t 8 = I x_45 ∧ t 43 = .fs 3 (List.map eTrain h_.Trains) ∧ t 44 = I (List.length h_.Trains : Int) ∧ t 45 = I x_45 ∧ t 51 = .fs 3 (List.map eCrowd x77.Crowds) ∧ t 52 = I (List.length x77.Crowds : Int) ∧ t 53 = I x_53 ∧ RR h v7_2 hs7 1 eI rows_7_2) ?_ ?_
            · exact ⟨v7_1, s2, s3, s7, (by first | (simp only [go_sem, List.length_append, List.map_append]; done) | rfl), s43, s44, s45, (by first | (simp only [go_sem, List.length_append, List.map_append]; done) | rfl), (by first | (simp only [go_sem, List.length_append, List.map_append]; done) | rfl), (by first | (simp only [go_sem, List.length_append, List.map_append]; done) | rfl), (rr_later q3 (by intro j hj  hl; first | rfl | simp only [go_sem, hl]) (by first | omega | exact Nat.le_refl _ | (simp only [go_sem, nxs] <;> omega)))⟩
            · rintro ⟨rows_7_2, x_53⟩ o t h ⟨v7_2, s2, s3, s7, s8, s43, s44, s45, s51, s52, s53, q3⟩ hm2 hb78
              simp only [halls_Play_L20] at hm2
              rw [x_halls_Play_L20]
              refine cw_reg_seq fun K hK => ?_
              simp only [go_sem, s52, s53, istr_of v7, istr_of v7_1, istr_of v7_2]
              refine hK _ _ ?_
              clear hK K
              refine cw_seq_k fun K79 hK79 => ?_
              simp only [go_sem]
              refine ibr_intro (fun hc80 => ?_) (fun hc80 => ?_)
              · rw [if_t hc80] at hm2
                simp only [cw_skip, qblock_normal, qseq_normal]
                refine hK79 _ _ ?_
                refine cw_seq_k fun K81 hK81 => ?_
                simp only [cw_block]
                obtain ⟨x83, h_x83, hm2⟩ := bind_get hm2
                have h_x830 := get_nn h_x83
                have h_x831 := get_lt h_x83
                refine cw_reg_seq fun K hK => ?_
                simp only [go_sem, s51, s53, ielem_get h_x83, irow_get h_x83, h_x830, h_x831, istr_of v7, istr_of v7_1, istr_of v7_2]
                refine hK _ _ ?_
                clear hK K
                obtain ⟨x89, h_x89, hm2⟩ := bind_get hm2
                have h_x890 := get_nn h_x89
                have h_x891 := get_lt h_x89
                obtain ⟨x90, h_x90, hm2⟩ := bind_get hm2
                have h_x900 := get_nn h_x90
                have h_x901 := get_lt h_x90
                obtain ⟨iqp1422, rfl, q7, q0⟩ := rr_top q3 h_x90
                obtain ⟨wp1423, hw_wp1423, os_wp1423⟩ := rr_row q3 h_x90
                obtain ⟨x91, h_x91, hm2⟩ := bind_get hm2
                have h_x910 := get_nn h_x91
                have h_x911 := get_lt h_x91
                obtain ⟨irp1424, rfl, obr_irp1424, ltr_irp1424⟩ := own_get os_wp1423 h_x91
                obtain ⟨x92, h_x92, hm2⟩ := bind_get hm2
                have h_x920 := get_nn h_x92
                have h_x921 := get_lt h_x92
                obtain ⟨x93, h_x93, hm2⟩ := bind_get hm2
                have h_x930 := get_nn h_x93
                have h_x931 := get_lt h_x93
                refine cw_reg_postK1 (fun t h => ∃ v7_3 : AV, t 2 = .fp [.fs 5 (List.map eComb h_.Combs), .fs 3 (List.map eTrain h_.Trains), .fs 3 (List.map eShift h_.Shifts), I h_.Until] 0 ∧ t 3 = .fp [.fs 1 (List.map eI d.At), .fs 1 (List.map eL_I d.People), .fs 1 (List.map eL_I d.Walks)] 0 ∧ t 7 = v7_3 ∧ t 8 = I x_45 ∧ t 43 = .fs 3 (List.map eTrain h_.Trains) ∧ t 44 = I (List.length h_.Trains : Int) ∧ t 45 = I x_45 ∧ t 51 = .fs 3 (List.map eCrowd x77.Crowds) ∧ t 52 = I (List.length x77.Crowds : Int) ∧ t 53 = I x_53 ∧ RR h v7_3 hs7 1 eI (List.set rows_7_2 (Int.toNat x89) (List.set x90 (Int.toNat x83.Comb) (wr (x91 + x93))))) (fun K hK => ?_) ?_
                · simp only [go_sem, s3, s7, rr_len q3, s8, q7, q0, ielem_get h_x89, irow_get h_x89, h_x890, h_x891, ielem_get h_x90, irow_get h_x90, h_x900, h_x901, ielem_get hw_wp1423, irow_get hw_wp1423, own_len os_wp1423, ielem_get h_x91, irow_get h_x91, h_x910, h_x911, obr_irp1424, ltr_irp1424, ielem_get h_x92, irow_get h_x92, h_x920, h_x921, ielem_get h_x93, irow_get h_x93, h_x930, h_x931, istr_of v7, istr_of v7_1]
                  exact hK _ _ ⟨(.rs iqp1422 0 (List.length rows_7_2)), s2, s3, (by first | (simp only [go_sem, s7, List.length_append, List.map_append]; done) | rfl), s8, s43, s44, s45, s51, s52, s53, (rr_upd q3 h_x90 hw_wp1423 (by simp only [go_sem, rr_lates q3, q7, q0, rr_top_ne q3 hw_wp1423, nsym (rr_top_ne q3 hw_wp1423), List.length_append, List.map_append]) (by simp only [List.length_set]) (by intro j hj hne hl; first | rfl | simp only [go_sem, hne, hl, q0]) (by first | omega | exact Nat.le_refl _ | (simp only [go_sem, nxs] <;> omega)))⟩
                · try clear s2 s3 s7 s8 s43 s44 s45 s51 s52 s53 q3 q7 q0
                  rintro t h ⟨v7_3, s2, s3, s7, s8, s43, s44, s45, s51, s52, s53, q3⟩
                  simp only [qblock_normal, qseq_normal]
                  refine hK81 _ _ ?_
                  refine cw_reg_k fun K hK => ?_
                  simp only [go_sem, s53, istr_of v7, istr_of v7_1, istr_of v7_3]
                  refine hK _ _ ?_
                  clear hK K
                  simp only [qblock_normal, qseq_normal]
                  obtain rfl := Option.some.inj hm2
                  refine ⟨_, rfl, ?_⟩
                  exact ⟨v7_3, s2, s3, s7, s8, s43, s44, s45, s51, s52, (by first | (simp only [go_sem, s53, List.length_append, List.map_append]; done) | rfl), q3⟩
              · rw [if_f hc80] at hm2
                simp only [cw_exit, qseq_exit, qblock_same, qblock_ne, qblock_normal, qseq_normal, Nat.reduceEqDiff, not_false_eq_true]
                obtain rfl := Option.some.inj hm2
                obtain rfl := hb78 _ rfl
                try dsimp only at hm1
                exact J75 rows_7_2 v7_2 _ _ s2 s3 s7 s43 s44 s45 q3 hm1
          · rw [if_f hc73] at hm1
            simp only [cw_exit, qseq_exit, qblock_same, qblock_ne, qblock_normal, qseq_normal, Nat.reduceEqDiff, not_false_eq_true]
            obtain rfl := Option.some.inj hm1
            obtain rfl := hb71 _ rfl
            try dsimp only at hm0
            exact J12 rows_7_1 v7_1 _ _ s2 s3 s7 q3 hm0
      simp only [cw_block]
      obtain ⟨b96, hl96, hm0⟩ := bind_get hm0
      refine cw_loopM hl96 (fun | (rows_7, x_32), t, h => ∃ v7 : AV, ∃ hs7 : List AV, t 2 = .fp [.fs 5 (List.map eComb h_.Combs), .fs 3 (List.map eTrain h_.Trains), .fs 3 (List.map eShift h_.Shifts), I h_.Until] 0 ∧ t 3 = .fp [.fs 1 (List.map eI d.At), .fs 1 (List.map eL_I d.People), .fs 1 (List.map eL_I d.Walks)] 0 ∧ t 7 = v7 ∧ t 31 = I h_.Until ∧ t 32 = I x_32 ∧ RR h v7 hs7 1 eI rows_7) ?_ ?_
      · exact ⟨nilS, [], (by first | (simp only [go_sem, List.length_append, List.map_append]; done) | rfl), (by first | (simp only [go_sem, List.length_append, List.map_append]; done) | rfl), (by first | (simp only [go_sem, List.length_append, List.map_append]; done) | rfl), (by first | (simp only [go_sem, List.length_append, List.map_append]; done) | rfl), (by first | (simp only [go_sem, List.length_append, List.map_append]; done) | rfl), rr_nil⟩
      · rintro ⟨rows_7, x_32⟩ o t h ⟨v7, hs7, s2, s3, s7, s31, s32, q3⟩ hm1 hb96
        simp only [halls_Play_L11] at hm1
        rw [x_halls_Play_L11]
        refine cw_reg_seq fun K hK => ?_
        simp only [go_sem, s31, s32, istr_of v7]
        refine hK _ _ ?_
        clear hK K
        refine cw_seq_k fun K97 hK97 => ?_
        simp only [go_sem]
        refine ibr_intro (fun hc98 => ?_) (fun hc98 => ?_)
        · rw [if_t hc98] at hm1
          simp only [cw_skip, qblock_normal, qseq_normal]
          refine hK97 _ _ ?_
          refine cw_seq_k fun K99 hK99 => ?_
          simp only [cw_block]
          obtain ⟨l102, h_l102, hm1⟩ := bind_get hm1
          obtain ⟨l103, h_l103, hm1⟩ := bind_get hm1
          refine cw_reg_postK1 (fun t h => ∃ v7_1 : AV, ∃ hs7_1 : List AV, t 2 = .fp [.fs 5 (List.map eComb h_.Combs), .fs 3 (List.map eTrain h_.Trains), .fs 3 (List.map eShift h_.Shifts), I h_.Until] 0 ∧ t 3 = .fp [.fs 1 (List.map eI d.At), .fs 1 (List.map eL_I d.People), .fs 1 (List.map eL_I d.Walks)] 0 ∧ t 7 = v7_1 ∧ t 31 = I h_.Until ∧ t 32 = I x_32 ∧ RR h v7_1 hs7_1 1 eI l103) (fun K hK => ?_) ?_
          · simp only [go_sem, s2, s7, rr_len q3, istr_of v7]
            refine imksl_ok (f := eI) (z := 0) rfl h_l102 ?_
            simp only [go_sem, s2, s7, rr_len q3, istr_of v7]
            refine iapp_rr (f := eI) (sz := 1) (rows := rows_7) (hs := hs7) (u := .rs h.nx 0 (List.length l102)) ?_ ?_ ?_ h_l103 ?_
            · exact (rr_later q3 (by intro j hj  hl; first | rfl | simp only [go_sem, hl]) (by first | omega | exact Nat.le_refl _ | (simp only [go_sem, nxs] <;> omega)))
            · exact (by simp only [go_sem, rr_lates q3, List.length_append, List.map_append])
            · exact (rr_late q3 (by first | assumption | omega | (simp only [nxs] <;> omega)))
            simp only [go_sem, s2, s7, rr_len q3, istr_of v7]
            exact hK _ _ ⟨(.rs (nxs (nxs h.nx)) 0 (List.length l103)), (hs7 ++ [.rs h.nx 0 (List.length l102)]), s2, s3, (by first | (simp only [go_sem, s7, List.length_append, List.map_append]; done) | rfl), s31, s32, (rr_app (h := h) q3 h_l103 (by simp only [go_sem, rr_lates q3, List.length_append, List.map_append]) rfl (by simp only [go_sem]) (own_rs (by simp only [go_sem, rr_lates q3, List.length_append, List.map_append]) (by simp only [go_sem, rr_lates q3, List.length_append, List.map_append]) (by simp only [go_sem])) (dr_rs (by first | assumption | exact rr_late q3 (by first | omega | (simp only [nxs] <;> omega)))) (by first | omega | exact Nat.le_refl _ | (simp only [go_sem, nxs] <;> omega)) (by first | exact notid_nil | exact notid_rs (by first | assumption | omega | (simp only [nxs] <;> omega))) (by intro j hj h2 hl; first | rfl | simp only [go_sem, h2, hl]) (by first | omega | exact Nat.le_refl _ | (simp only [go_sem, nxs] <;> omega)))⟩
          · rintro t h ⟨v7_1, hs7_1, s2, s3, s7, s31, s32, q3⟩
            simp only [qblock_normal, qseq_normal]
            refine hK99 _ _ ?_
            refine cw_reg_k fun K hK => ?_
            simp only [go_sem, s32, istr_of v7, istr_of v7_1]
            refine hK _ _ ?_
            clear hK K
            simp only [qblock_normal, qseq_normal]
            obtain rfl := Option.some.inj hm1
            refine ⟨_, rfl, ?_⟩
            exact ⟨v7_1, hs7_1, s2, s3, s7, s31, (by first | (simp only [go_sem, s32, List.length_append, List.map_append]; done) | rfl), q3⟩
        · rw [if_f hc98] at hm1
          simp only [cw_exit, qseq_exit, qblock_same, qblock_ne, qblock_normal, qseq_normal, Nat.reduceEqDiff, not_false_eq_true]
          obtain rfl := Option.some.inj hm1
          obtain rfl := hb96 _ rfl
          try dsimp only at hm0
          exact J10 rows_7 v7 hs7 _ _ s2 s3 s7 q3 hm0

end Go.Nw.HM

namespace Go.Nw.HM
open Go.Nw.Halls
set_option linter.unusedSimpArgs false
set_option linter.unusedVariables false
set_option maxHeartbeats 4000000
variable {O : Orac}

theorem k_halls_Rates (hf : Has O "newel/halls.Rates" x_halls_Rates) (k_halls_check : C_halls_check O) (k_halls_rates : C_halls_rates O) : C_halls_Rates O := by
  intro h_ comb r hm0
  unfold halls_Rates at hm0
  refine fn_cw hf rfl (fz_cons (.agg _ (fz_cons (frz_fs fun a _ => fz_eComb a) (fz_cons (frz_fs fun a _ => fz_eTrain a) (fz_cons (frz_fs fun a _ => fz_eShift a) (fz_cons (frz_v _) fz_nil))))) (fz_cons (frz_v _) fz_nil)) (.tup _ (fz_cons (frz_fs fun a _ => fz_eI a) (fz_cons (frz_v _) fz_nil))) ?_
  refine cw_start (fun t h => t 0 = .agg [.fs 5 (List.map eComb h_.Combs), .fs 3 (List.map eTrain h_.Trains), .fs 3 (List.map eShift h_.Shifts), I h_.Until] ∧ t 1 = I comb) ⟨rfl, rfl⟩ fun t h ⟨s0, s1⟩ => ?_
  simp only [x_halls_Rates]
  refine cw_reg_seq fun K hK => ?_
  simp only [go_sem, s0]
  refine hK _ _ ?_
  clear hK K
  refine cw_assoc ?_
  obtain ⟨y2, h_y2, hm0⟩ := bind_get hm0
  refine cw_reg_seq fun K hK => ?_
  simp only [go_sem, s1]
  refine icall_fn2 ?_ (fz_cons (.agg _ (fz_cons (frz_fs fun a _ => fz_eComb a) (fz_cons (frz_fs fun a _ => fz_eTrain a) (fz_cons (frz_fs fun a _ => fz_eShift a) (fz_cons (frz_v _) fz_nil))))) (fz_cons (frz_v _) (fz_cons (frz_v _) fz_nil))) (k_halls_check h_ comb ([]) _ h_y2) ?_
  · exact .cons (.refl _ (.agg _ (fz_cons (frz_fs fun a _ => fz_eComb a) (fz_cons (frz_fs fun a _ => fz_eTrain a) (fz_cons (frz_fs fun a _ => fz_eShift a) (fz_cons (frz_v _) fz_nil)))))) (.cons (.refl _ (frz_v _)) (.cons (.nil _) (.nil)))
  simp only [go_sem, s1]
  refine hK _ _ ?_
  clear hK K
  refine cw_assoc ?_
  refine cw_reg_seq fun K hK => ?_
  simp only [go_sem]
  refine hK _ _ ?_
  clear hK K
  refine cw_seq_k fun K3 hK3 => ?_
  simp only [go_sem]
  refine ibr_intro (fun hc4 => ?_) (fun hc4 => ?_)
  · rw [if_t hc4] at hm0
    refine cw_reg_seq fun K hK => ?_
    simp only [go_sem]
    refine hK _ _ ?_
    clear hK K
    simp only [cw_ret, qseq_ret, qblock_ret, retQ_ret]
    obtain rfl := Option.some.inj hm0
    exact done_fz2 (v := .v (.slice none 0 0)) (u := I y2) (by simp only [go_sem, List.length_append, List.map_append]) (by simp only [go_sem, List.length_append, List.map_append]) (.nil _) (.refl _ (frz_v _))
  · rw [if_f hc4] at hm0
    simp only [cw_skip, qblock_normal, qseq_normal]
    refine hK3 _ _ ?_
    obtain ⟨y6, h_y6, hm0⟩ := bind_get hm0
    refine cw_reg_seq fun K hK => ?_
    simp only [go_sem, s1]
    refine icall_ow (e := eI) (l := y6) ?_ (k_halls_rates h_ comb _ h_y6) ?_
    · exact .cons (.refl _ (.agg _ (fz_cons (frz_fs fun a _ => fz_eComb a) (fz_cons (frz_fs fun a _ => fz_eTrain a) (fz_cons (frz_fs fun a _ => fz_eShift a) (fz_cons (frz_v _) fz_nil)))))) (.cons (.refl _ (frz_v _)) (.nil))
    simp only [go_sem, s1]
    refine hK _ _ ?_
    clear hK K
    simp only [cw_ret, qseq_ret, qblock_ret, retQ_ret]
    obtain rfl := Option.some.inj hm0
    exact done_fz2 (v := .rs h.nx 0 (List.length y6)) (u := I 0) (by simp only [go_sem, List.length_append, List.map_append]) (by simp only [go_sem, List.length_append, List.map_append]) (fz_rs (f := eI) (l := y6) (id := h.nx) (by simp only [go_sem, List.length_append, List.map_append]) (by first | rfl | simp only [go_sem, List.length_append, List.map_append]) fz_eI ln_eI) (.refl _ (frz_v _))

end Go.Nw.HM

namespace Go.Nw.HM
open Go.Nw.Halls
set_option linter.unusedSimpArgs false
set_option linter.unusedVariables false
set_option maxHeartbeats 4000000
variable {O : Orac}

theorem k_halls_bounds (hf : Has O "newel/halls.bounds" x_halls_bounds) (k_halls_brought : C_halls_brought O) (k___halls_bound__passes : C___halls_bound__passes O) : C_halls_bounds O := by
  intro h_ open_ r hm0
  unfold halls_bounds at hm0
  refine fn_cw hf rfl (fz_cons (.agg _ (fz_cons (frz_fs fun a _ => fz_eComb a) (fz_cons (frz_fs fun a _ => fz_eTrain a) (fz_cons (frz_fs fun a _ => fz_eShift a) (fz_cons (frz_v _) fz_nil))))) (fz_cons (frz_fs fun a _ => fz_eL_I a) fz_nil)) (frz_fs fun a _ => fz_eP_halls_bound a) ?_
  refine cw_start (fun t h => t 0 = .agg [.fs 5 (List.map eComb h_.Combs), .fs 3 (List.map eTrain h_.Trains), .fs 3 (List.map eShift h_.Shifts), I h_.Until] ∧ t 1 = .fs 1 (List.map eL_I open_)) ⟨rfl, rfl⟩ fun t h ⟨s0, s1⟩ => ?_
  simp only [x_halls_bounds]
  refine cw_reg_seq fun K hK => ?_
  simp only [go_sem, s0]
  refine hK _ _ ?_
  clear hK K
  refine cw_reg_seq fun K hK => ?_
  simp only [go_sem]
  refine hK _ _ ?_
  clear hK K
  refine cw_assoc ?_
  refine cw_reg_seq fun K hK => ?_
  simp only [go_sem]
  refine hK _ _ ?_
  clear hK K
  refine cw_seq_k fun K1 hK1 => ?_
  have J2 : ∀ (all_5 : List halls_bound) (v5 : AV) (t : Slots) (h : Heap), t 5 = v5 → OwnS h v5 1 (List.map eP_halls_bound all_5) → halls_bounds_j2 all_5 = some r → K1 t h := by
    intro all_5 v5 t h s5 qf hm0
    refine hK1 _ _ ?_
    unfold halls_bounds_j2 at hm0
    refine cw_assoc ?_
    refine cw_ghost_own (s := 5) (v := v5) (f := eP_halls_bound) (l := all_5) (by simp only [go_sem, s5, own_late qf, List.length_append, List.map_append]) (own_later qf (by intro j hj hl; first | rfl | simp only [go_sem, hl]) (by first | omega | exact Nat.le_refl _ | (simp only [go_sem, nxs] <;> omega))) fz_eP_halls_bound ln_eP_halls_bound ?_
    skip
    refine cw_reg_seq fun K hK => ?_
    simp only [go_sem, s5, istr_of v5]
    refine hK _ _ ?_
    clear hK K
    simp only [cw_ret, qseq_ret, qblock_ret, retQ_ret]
    obtain rfl := Option.some.inj hm0
    exact done_t (by simp only [go_sem, own_late qf, List.length_append, List.map_append]) (frz_fs fun a _ => fz_eP_halls_bound a)
  simp only [cw_block]
  obtain ⟨b3, hl3, hm0⟩ := bind_get hm0
  refine cw_loopM hl3 (fun | (all_5, x_19), t, h => ∃ v5 : AV, t 1 = .fs 1 (List.map eL_I open_) ∧ t 2 = .fp [.fs 5 (List.map eComb h_.Combs), .fs 3 (List.map eTrain h_.Trains), .fs 3 (List.map eShift h_.Shifts), I h_.Until] 0 ∧ t 5 = v5 ∧ t 18 = I (List.length h_.Combs : Int) ∧ t 19 = I x_19 ∧ OwnS h v5 1 (List.map eP_halls_bound all_5)) ?_ ?_
  · exact ⟨(.v (.slice none 0 0)), s1, (by first | (simp only [go_sem, List.length_append, List.map_append]; done) | rfl), (by first | (simp only [go_sem, List.length_append, List.map_append]; done) | rfl), (by first | (simp only [go_sem, List.length_append, List.map_append]; done) | rfl), (by first | (simp only [go_sem, List.length_append, List.map_append]; done) | rfl), own_nil'⟩
  · rintro ⟨all_5, x_19⟩ o t h ⟨v5, s1, s2, s5, s18, s19, qf⟩ hm1 hb3
    simp only [halls_bounds_L42] at hm1
    rw [x_halls_bounds_L42]
    refine cw_reg_seq fun K hK => ?_
    simp only [go_sem, s18, s19, istr_of v5]
    refine hK _ _ ?_
    clear hK K
    refine cw_seq_k fun K4 hK4 => ?_
    simp only [go_sem]
    refine ibr_intro (fun hc5 => ?_) (fun hc5 => ?_)
    · rw [if_t hc5] at hm1
      simp only [cw_skip, qblock_normal, qseq_normal]
      refine hK4 _ _ ?_
      refine cw_seq_k fun K6 hK6 => ?_
      have J7 : ∀ (all_5_1 : List halls_bound) (i5 : Nat) (t : Slots) (h : Heap), t 1 = .fs 1 (List.map eL_I open_) → t 2 = .fp [.fs 5 (List.map eComb h_.Combs), .fs 3 (List.map eTrain h_.Trains), .fs 3 (List.map eShift h_.Shifts), I h_.Until] 0 → t 5 = .rs i5 0 (List.length all_5_1) → t 18 = I (List.length h_.Combs : Int) → t 19 = I x_19 → h.ob i5 = some (1, List.map eP_halls_bound all_5_1) → i5 < h.nx → halls_bounds_j7 x_19 all_5_1 = some o → K6 t h := by
        intro all_5_1 i5 t h s1 s2 s5 s18 s19 q12 qz hm1
        refine hK6 _ _ ?_
        unfold halls_bounds_j7 at hm1
        refine cw_reg_k fun K hK => ?_
        simp only [go_sem, s19, qz, istr_of v5]
        refine hK _ _ ?_
        clear hK K
        simp only [qblock_normal, qseq_normal]
        obtain rfl := Option.some.inj hm1
        refine ⟨_, rfl, ?_⟩
        exact ⟨(.rs i5 0 (List.length all_5_1)), s1, s2, (by first | exact s5 | simp only [go_sem, s5, List.length_append, List.map_append]), s18, (by first | (simp only [go_sem, s19, List.length_append, List.map_append]; done) | rfl), (own_rs (by simp only [go_sem, q12, qz, List.length_append, List.map_append]) (by first | rfl | simp only [go_sem, List.length_append, List.map_append]) (by simp only [go_sem, qz]))⟩
      simp only [cw_block]
      refine cw_reg_seq fun K hK => ?_
      simp only [go_sem, s19, istr_of v5]
      refine hK _ _ ?_
      clear hK K
      refine cw_reg_seq fun K hK => ?_
      simp only [go_sem, istr_of v5]
      refine hK _ _ ?_
      clear hK K
      refine cw_assoc ?_
      refine cw_reg_seq fun K hK => ?_
      simp only [go_sem, s2, istr_of v5]
      refine hK _ _ ?_
      clear hK K
      refine cw_seq_k fun K8 hK8 => ?_
      have J9 : ∀ (b_7_0 : List Int) (b_7_3 : List (List Int)) (v5_1 : AV) (i7 : Nat) (i7_1 : Nat) (i7_2 : Nat) (v7 : AV) (t : Slots) (h : Heap), t 1 = .fs 1 (List.map eL_I open_) → t 2 = .fp [.fs 5 (List.map eComb h_.Combs), .fs 3 (List.map eTrain h_.Trains), .fs 3 (List.map eShift h_.Shifts), I h_.Until] 0 → t 5 = v5_1 → t 6 = I x_19 → t 7 = .rp i7 0 0 → t 18 = I (List.length h_.Combs : Int) → t 19 = I x_19 → OwnS h v5_1 1 (List.map eP_halls_bound all_5) → h.ob i7 = some (4, [[.rs i7_1 0 (List.length b_7_0), .rs i7_2 0 (List.length ([0])), .v (.slice none 0 0), v7]]) → i7 < h.nx → h.ob i7_1 = some (1, List.map eI b_7_0) → i7_1 < h.nx → h.ob i7_2 = some (1, List.map eI ([0])) → i7_2 < h.nx → OwnS h v7 1 (List.map eL_I b_7_3) → NotId v5_1 i7 → NotId v5_1 i7_1 → NotId v5_1 i7_2 → (∀ j, ¬NotId v5_1 j → NotId v7 j) → ¬i7 = i7_1 → ¬i7 = i7_2 → NotId v7 i7 → ¬i7_1 = i7_2 → NotId v7 i7_1 → NotId v7 i7_2 → halls_bounds_j9 h_ open_ all_5 x_19 b_7_0 b_7_3 = some o → K8 t h := by
        intro b_7_0 b_7_3 v5_1 i7 i7_1 i7_2 v7 t h s1 s2 s5 s6 s7 s18 s19 qf q7 q0 qg q2 qh q1 q8 q9 qa qb qn q4 q5 qc q6 qd qe hm1
        refine hK8 _ _ ?_
        unfold halls_bounds_j9 at hm1
        refine cw_assoc ?_
        refine cw_reg_seq fun K hK => ?_
        simp only [go_sem, s2, q0, q2, q1, istr_of v5, istr_of v5_1, istr_of v7]
        refine hK _ _ ?_
        clear hK K
        refine cw_seq_k fun K10 hK10 => ?_
        have J11 : ∀ (b_7_1 : List Int) (b_7_2 : List Int) (i7_3 : Nat) (v7_1 : AV) (v7_2 : AV) (t : Slots) (h : Heap), t 1 = .fs 1 (List.map eL_I open_) → t 2 = .fp [.fs 5 (List.map eComb h_.Combs), .fs 3 (List.map eTrain h_.Trains), .fs 3 (List.map eShift h_.Shifts), I h_.Until] 0 → t 5 = v5_1 → t 7 = .rp i7 0 0 → t 18 = I (List.length h_.Combs : Int) → t 19 = I x_19 → OwnS h v5_1 1 (List.map eP_halls_bound all_5) → h.ob i7 = some (4, [[.rs i7_1 0 (List.length b_7_0), .rs i7_3 0 (List.length b_7_1), v7_1, v7_2]]) → i7 < h.nx → h.ob i7_1 = some (1, List.map eI b_7_0) → i7_1 < h.nx → h.ob i7_3 = some (1, List.map eI b_7_1) → i7_3 < h.nx → OwnS h v7_1 1 (List.map eI b_7_2) → OwnS h v7_2 1 (List.map eL_I b_7_3) → NotId v5_1 i7 → NotId v5_1 i7_1 → NotId v5_1 i7_3 → (∀ j, ¬NotId v5_1 j → NotId v7_1 j) → (∀ j, ¬NotId v5_1 j → NotId v7_2 j) → ¬i7 = i7_1 → ¬i7 = i7_3 → NotId v7_1 i7 → NotId v7_2 i7 → ¬i7_1 = i7_3 → NotId v7_1 i7_1 → NotId v7_2 i7_1 → NotId v7_1 i7_3 → NotId v7_2 i7_3 → (∀ j, ¬NotId v7_1 j → NotId v7_2 j) → halls_bounds_j11 all_5 x_19 b_7_0 b_7_3 b_7_1 b_7_2 = some o → K10 t h := by
          try clear s1 s2 s5 s6 s7 s18 s19 qf q7 q0 qg q2 qh q1 q8 q9 qa qb qn q4 q5 qc q6 qd qe
          intro b_7_1 b_7_2 i7_3 v7_1 v7_2 t h s1 s2 s5 s7 s18 s19 qf q7 q0 qg q2 qh q1 q8 qo q9 qa qb qn qw q4 q5 qc qp q6 qd qq qe qr qx hm1
          refine hK10 _ _ ?_
          unfold halls_bounds_j11 at hm1
          refine cw_ghost_deep (s := 7) (v := .rp i7 0 0) (y := .fp [.fs 1 (List.map eI b_7_0), .fs 1 (List.map eI b_7_1), .fs 1 (List.map eI b_7_2), .fs 1 (List.map eL_I b_7_3)] 0) (fun j => j == i7 || j == i7_1 || j == i7_3 || vidb v7_1 j || vidb v7_2 j) (by simp only [go_sem, s7, own_late qf, q7, q0, qg, q2, qh, q1, own_late q8, own_late qo, q9, qa, qb, q4, nsym q4, q5, nsym q5, qc, qp, q6, nsym q6, qd, qq, qe, qr, List.length_append, List.map_append]) (fz_rp (id := i7) (sz := 4) (xs := [.rs i7_1 0 (List.length b_7_0), .rs i7_3 0 (List.length b_7_1), v7_1, v7_2]) (by rw [only_ob (by simp)]; simp only [go_sem, own_late qf, q7, q0, qg, q2, qh, q1, own_late q8, own_late qo, q9, qa, qb, q4, nsym q4, q5, nsym q5, qc, qp, q6, nsym q6, qd, qq, qe, qr, List.length_append, List.map_append]) (.cons (fz_rs (f := eI) (l := b_7_0) (id := i7_1) (by rw [only_ob (by simp)]; simp only [go_sem, own_late qf, q7, q0, qg, q2, qh, q1, own_late q8, own_late qo, q9, qa, qb, q4, nsym q4, q5, nsym q5, qc, qp, q6, nsym q6, qd, qq, qe, qr, List.length_append, List.map_append]) (by first | rfl | simp only [go_sem, List.length_append, List.map_append]) fz_eI ln_eI) (.cons (fz_rs (f := eI) (l := b_7_1) (id := i7_3) (by rw [only_ob (by simp)]; simp only [go_sem, own_late qf, q7, q0, qg, q2, qh, q1, own_late q8, own_late qo, q9, qa, qb, q4, nsym q4, q5, nsym q5, qc, qp, q6, nsym q6, qd, qq, qe, qr, List.length_append, List.map_append]) (by first | rfl | simp only [go_sem, List.length_append, List.map_append]) fz_eI ln_eI) (.cons (fz_own (f := eI) (l := b_7_2) (own_only (own_later q8 (by intro j hj hl; first | rfl | simp only [go_sem, hl, di_sym qn j hj, own_ne hj qc, own_ne hj qd, own_ne hj qe, qx j hj]) (by first | omega | exact Nat.le_refl _ | (simp only [go_sem, nxs] <;> omega))) (by intro j hj; simp [vidb_is hj])) fz_eI ln_eI) (.cons (fz_own (f := eL_I) (l := b_7_3) (own_only (own_later qo (by intro j hj hl; first | rfl | simp only [go_sem, hl, di_sym qw j hj, own_ne hj qp, own_ne hj qq, own_ne hj qr, di_sym qx j hj]) (by first | omega | exact Nat.le_refl _ | (simp only [go_sem, nxs] <;> omega))) (by intro j hj; simp [vidb_is hj])) fz_eL_I ln_eL_I) (.nil)))))) (.fp _ _ (fz_cons (frz_fs fun a _ => fz_eI a) (fz_cons (frz_fs fun a _ => fz_eI a) (fz_cons (frz_fs fun a _ => fz_eI a) (fz_cons (frz_fs fun a _ => fz_eL_I a) fz_nil))))) ?_
          obtain ⟨l13, h_l13, hm1⟩ := bind_get hm1
          refine cw_reg_k fun K hK => ?_
          simp only [go_sem, s5, s7, q0, q2, q1, q9, qa, qb, Bool.or_eq_false_iff, beq_eq_false_iff_ne, ne_eq, not_false_eq_true, and_self, vidb_own q8 qc, vidb_own qo qp, vidb_own q8 qd, vidb_own qo qq, vidb_own q8 qe, vidb_own qo qr, istr_of v5, istr_of v5_1, istr_of v7, istr_of v7_1, istr_of v7_2]
          refine iapp_own (f := eP_halls_bound) (l := all_5) (m := ([(halls_bound.mk b_7_0 b_7_1 b_7_2 b_7_3)])) ?_ ?_ ?_ ?_ h_l13 ?_
          · exact (own_later qf (by intro j hj hl; first | rfl | simp only [go_sem, hl, own_ne hj q9, own_ne hj qa, own_ne hj qb, qn j hj, vidb_own q8 (qn j hj), qw j hj, vidb_own qo (qw j hj), Bool.or_eq_false_iff, beq_eq_false_iff_ne, ne_eq, not_false_eq_true, and_self]) (by first | omega | exact Nat.le_refl _ | (simp only [go_sem, nxs] <;> omega)))
          · exact (ownx_rs (by simp only [go_sem, Bool.or_eq_false_iff, beq_eq_false_iff_ne, ne_eq, not_false_eq_true, and_self, vidb_own q8 qc, vidb_own qo qp, vidb_own q8 qd, vidb_own qo qq, vidb_own q8 qe, vidb_own qo qr, own_late qf, q7, q0, qg, q2, qh, q1, own_late q8, own_late qo, q9, qa, qb, q4, nsym q4, q5, nsym q5, qc, qp, q6, nsym q6, qd, qq, qe, qr, List.length_append, List.map_append]) (by simp only [go_sem, Bool.or_eq_false_iff, beq_eq_false_iff_ne, ne_eq, not_false_eq_true, and_self, vidb_own q8 qc, vidb_own qo qp, vidb_own q8 qd, vidb_own qo qq, vidb_own q8 qe, vidb_own qo qr, own_late qf, q7, q0, qg, q2, qh, q1, own_late q8, own_late qo, q9, qa, qb, q4, nsym q4, q5, nsym q5, qc, qp, q6, nsym q6, qd, qq, qe, qr, List.length_append, List.map_append]))
          · exact (nd_rs (by first | exact notid_nil | exact notid_rs (by first | omega | (simp only [nxs] <;> omega)) | assumption | exact own_notid (by assumption) (by first | omega | (simp only [go_sem, nxs] <;> omega))))
          · exact (fun _ => by simp)
          simp only [go_sem, s5, s7, q0, q2, q1, q9, qa, qb, Bool.or_eq_false_iff, beq_eq_false_iff_ne, ne_eq, not_false_eq_true, and_self, vidb_own q8 qc, vidb_own qo qp, vidb_own q8 qd, vidb_own qo qq, vidb_own q8 qe, vidb_own qo qr, istr_of v5, istr_of v5_1, istr_of v7, istr_of v7_1, istr_of v7_2]
          refine hK _ _ ?_
          clear hK K
          simp only [qblock_normal, qseq_normal]
          exact J7 l13 (nxs h.nx) _ _ s1 s2 (by first | (simp only [go_sem, s5, List.length_append, List.map_append]; done) | rfl) s18 s19 (by simp only [go_sem, Bool.or_eq_false_iff, beq_eq_false_iff_ne, ne_eq, not_false_eq_true, and_self, own_late qf, q0, q2, q1, own_late q8, own_late qo, List.length_append, List.map_append]) (by simp only [go_sem]) hm1
        simp only [cw_block]
        obtain ⟨b14, hl14, hm1⟩ := bind_get hm1
        refine cw_loopM hl14 (fun | (b_7_1, b_7_2, x_122), t, h => ∃ i7_3 : Nat, ∃ v7_1 : AV, ∃ v7_2 : AV, t 1 = .fs 1 (List.map eL_I open_) ∧ t 2 = .fp [.fs 5 (List.map eComb h_.Combs), .fs 3 (List.map eTrain h_.Trains), .fs 3 (List.map eShift h_.Shifts), I h_.Until] 0 ∧ t 5 = v5_1 ∧ t 6 = I x_19 ∧ t 7 = .rp i7 0 0 ∧ t 18 = I (List.length h_.Combs : Int) ∧ t 19 = I x_19 ∧ t 121 = I h_.Until ∧ t 122 = I x_122 ∧ OwnS h v5_1 1 (List.map eP_halls_bound all_5) ∧ h.ob i7 = some (4, [[.rs i7_1 0 (List.length b_7_0), .rs i7_3 0 (List.length b_7_1), v7_1, v7_2]]) ∧ i7 < h.nx ∧ h.ob i7_1 = some (1, List.map eI b_7_0) ∧ i7_1 < h.nx ∧ h.ob i7_3 = some (1, List.map eI b_7_1) ∧ i7_3 < h.nx ∧ OwnS h v7_1 1 (List.map eI b_7_2) ∧ OwnS h v7_2 1 (List.map eL_I b_7_3) ∧ NotId v5_1 i7 ∧ NotId v5_1 i7_1 ∧ NotId v5_1 i7_3 ∧ (∀ j, ¬NotId v5_1 j → NotId v7_1 j) ∧ (∀ j, ¬NotId v5_1 j → NotId v7_2 j) ∧ ¬i7 = i7_1 ∧ ¬i7 = i7_3 ∧ NotId v7_1 i7 ∧ NotId v7_2 i7 ∧ ¬i7_1 = i7_3 ∧ NotId v7_1 i7_1 ∧ NotId v7_2 i7_1 ∧ NotId v7_1 i7_3 ∧ NotId v7_2 i7_3 ∧ (∀ j, ¬NotId v7_1 j → NotId v7_2 j)) ?_ ?_
        · exact ⟨i7_2, (.v (.slice none 0 0)), v7, s1, s2, s5, s6, s7, s18, s19, (by first | (simp only [go_sem, List.length_append, List.map_append]; done) | rfl), (by first | (simp only [go_sem, List.length_append, List.map_append]; done) | rfl), qf, q7, q0, qg, q2, qh, q1, own_nil', q8, q9, qa, qb, (by first | exact dis_nil_l | exact dis_nil_r | assumption | (refine dis_rs_l ?_; first | assumption | exact own_notid (by assumption) (by first | assumption | omega | (simp only [nxs] <;> omega))) | (refine nd_rs ?_; first | assumption | exact own_notid (by assumption) (by first | assumption | omega | (simp only [nxs] <;> omega)))), qn, q4, q5, (by first | exact notid_nil | exact notid_rs (by first | assumption | omega | (simp only [nxs] <;> omega)) | assumption | exact own_notid (by assumption) (by first | assumption | omega | (simp only [nxs] <;> omega))), qc, q6, (by first | exact notid_nil | exact notid_rs (by first | assumption | omega | (simp only [nxs] <;> omega)) | assumption | exact own_notid (by assumption) (by first | assumption | omega | (simp only [nxs] <;> omega))), qd, (by first | exact notid_nil | exact notid_rs (by first | assumption | omega | (simp only [nxs] <;> omega)) | assumption | exact own_notid (by assumption) (by first | assumption | omega | (simp only [nxs] <;> omega))), qe, (by first | exact dis_nil_l | exact dis_nil_r | assumption | (refine dis_rs_l ?_; first | assumption | exact own_notid (by assumption) (by first | assumption | omega | (simp only [nxs] <;> omega))) | (refine nd_rs ?_; first | assumption | exact own_notid (by assumption) (by first | assumption | omega | (simp only [nxs] <;> omega))))⟩
        · try clear s1 s2 s5 s6 s7 s18 s19 qf q7 q0 qg q2 qh q1 q8 q9 qa qb qn q4 q5 qc q6 qd qe
          rintro ⟨b_7_1, b_7_2, x_122⟩ o t h ⟨i7_3, v7_1, v7_2, s1, s2, s5, s6, s7, s18, s19, s121, s122, qf, q7, q0, qg, q2, qh, q1, q8, qo, q9, qa, qb, qn, qw, q4, q5, qc, qp, q6, qd, qq, qe, qr, qx⟩ hm2 hb14
          simp only [halls_bounds_L39] at hm2
          rw [x_halls_bounds_L39]
          refine cw_reg_seq fun K hK => ?_
          simp only [go_sem, s121, s122, q0, q2, q1, istr_of v5, istr_of v5_1, istr_of v7, istr_of v7_1, istr_of v7_2]
          refine hK _ _ ?_
          clear hK K
          refine cw_seq_k fun K15 hK15 => ?_
          simp only [go_sem]
          refine ibr_intro (fun hc16 => ?_) (fun hc16 => ?_)
          · rw [if_t hc16] at hm2
            simp only [cw_skip, qblock_normal, qseq_normal]
            refine hK15 _ _ ?_
            refine cw_seq_k fun K17 hK17 => ?_
            have J18 : ∀ (b_7_1_1 : List Int) (b_7_2_1 : List Int) (i7_4 : Nat) (i7_5 : Nat) (v7_3 : AV) (t : Slots) (h : Heap), t 1 = .fs 1 (List.map eL_I open_) → t 2 = .fp [.fs 5 (List.map eComb h_.Combs), .fs 3 (List.map eTrain h_.Trains), .fs 3 (List.map eShift h_.Shifts), I h_.Until] 0 → t 5 = v5_1 → t 6 = I x_19 → t 7 = .rp i7 0 0 → t 18 = I (List.length h_.Combs : Int) → t 19 = I x_19 → t 121 = I h_.Until → t 122 = I x_122 → OwnS h v5_1 1 (List.map eP_halls_bound all_5) → h.ob i7 = some (4, [[.rs i7_1 0 (List.length b_7_0), .rs i7_4 0 (List.length b_7_1_1), .rs i7_5 0 (List.length b_7_2_1), v7_3]]) → i7 < h.nx → h.ob i7_1 = some (1, List.map eI b_7_0) → i7_1 < h.nx → h.ob i7_4 = some (1, List.map eI b_7_1_1) → i7_4 < h.nx → h.ob i7_5 = some (1, List.map eI b_7_2_1) → i7_5 < h.nx → OwnS h v7_3 1 (List.map eL_I b_7_3) → NotId v5_1 i7 → NotId v5_1 i7_1 → NotId v5_1 i7_4 → NotId v5_1 i7_5 → (∀ j, ¬NotId v5_1 j → NotId v7_3 j) → ¬i7 = i7_1 → ¬i7 = i7_4 → ¬i7 = i7_5 → NotId v7_3 i7 → ¬i7_1 = i7_4 → ¬i7_1 = i7_5 → NotId v7_3 i7_1 → ¬i7_4 = i7_5 → NotId v7_3 i7_4 → NotId v7_3 i7_5 → halls_bounds_j18 x_122 b_7_1_1 b_7_2_1 = some o → K17 t h := by
              try clear s1 s2 s5 s6 s7 s18 s19 s121 s122 qf q7 q0 qg q2 qh q1 q8 qo q9 qa qb qn qw q4 q5 qc qp q6 qd qq qe qr qx
              intro b_7_1_1 b_7_2_1 i7_4 i7_5 v7_3 t h s1 s2 s5 s6 s7 s18 s19 s121 s122 qf q7 q0 qg q2 qh q1 q15 q11 qo q9 qa qb q1a qw q4 q5 q1b qp q6 q1c qq q1d qr q1e hm2
              refine hK17 _ _ ?_
              unfold halls_bounds_j18 at hm2
              refine cw_reg_k fun K hK => ?_
              simp only [go_sem, s122, q0, q2, q1, q11, istr_of v5, istr_of v5_1, istr_of v7, istr_of v7_1, istr_of v7_2, istr_of v7_3]
              refine hK _ _ ?_
              clear hK K
              simp only [qblock_normal, qseq_normal]
              obtain rfl := Option.some.inj hm2
              refine ⟨_, rfl, ?_⟩
              exact ⟨i7_4, (.rs i7_5 0 (List.length b_7_2_1)), v7_3, s1, s2, s5, s6, s7, s18, s19, s121, (by first | (simp only [go_sem, s122, List.length_append, List.map_append]; done) | rfl), qf, q7, q0, qg, q2, qh, q1, (own_rs (by simp only [go_sem, q15, q11, List.length_append, List.map_append]) (by first | rfl | simp only [go_sem, List.length_append, List.map_append]) (by simp only [go_sem, q11])), qo, q9, qa, qb, (by first | exact dis_nil_l | exact dis_nil_r | assumption | (refine dis_rs_l ?_; first | assumption | exact own_notid (by assumption) (by first | assumption | omega | (simp only [nxs] <;> omega))) | (refine nd_rs ?_; first | assumption | exact own_notid (by assumption) (by first | assumption | omega | (simp only [nxs] <;> omega)))), qw, q4, q5, (by first | exact notid_nil | exact notid_rs (by first | assumption | omega | (simp only [nxs] <;> omega)) | assumption | exact own_notid (by assumption) (by first | assumption | omega | (simp only [nxs] <;> omega))), qp, q6, (by first | exact notid_nil | exact notid_rs (by first | assumption | omega | (simp only [nxs] <;> omega)) | assumption | exact own_notid (by assumption) (by first | assumption | omega | (simp only [nxs] <;> omega))), qq, (by first | exact notid_nil | exact notid_rs (by first | assumption | omega | (simp only [nxs] <;> omega)) | assumption | exact own_notid (by assumption) (by first | assumption | omega | (simp only [nxs] <;> omega))), qr, (by first | exact dis_nil_l | exact dis_nil_r | assumption | (refine dis_rs_l ?_; first | assumption | exact own_notid (by assumption) (by first | assumption | omega | (simp only [nxs] <;> omega))) | (refine nd_rs ?_; first | assumption | exact own_notid (by assumption) (by first | assumption | omega | (simp only [nxs] <;> omega))))⟩
            simp only [cw_block]
            refine cw_reg_seq fun K hK => ?_
            simp only [go_sem, s122, q0, q2, q1, istr_of v5, istr_of v5_1, istr_of v7, istr_of v7_1, istr_of v7_2]
            refine hK _ _ ?_
            clear hK K
            refine cw_reg_seq fun K hK => ?_
            simp only [go_sem, q0, q2, q1, istr_of v5, istr_of v5_1, istr_of v7, istr_of v7_1, istr_of v7_2]
            refine hK _ _ ?_
            clear hK K
            refine cw_assoc ?_
            refine cw_reg_seq fun K hK => ?_
            simp only [go_sem, q0, q2, q1, istr_of v5, istr_of v5_1, istr_of v7, istr_of v7_1, istr_of v7_2]
            refine hK _ _ ?_
            clear hK K
            refine cw_seq_k fun K19 hK19 => ?_
            have J20 : ∀ (most_14 : Int) (v7_3 : AV) (t : Slots) (h : Heap), t 1 = .fs 1 (List.map eL_I open_) → t 2 = .fp [.fs 5 (List.map eComb h_.Combs), .fs 3 (List.map eTrain h_.Trains), .fs 3 (List.map eShift h_.Shifts), I h_.Until] 0 → t 5 = v5_1 → t 6 = I x_19 → t 7 = .rp i7 0 0 → t 13 = I x_122 → t 14 = I most_14 → t 18 = I (List.length h_.Combs : Int) → t 19 = I x_19 → t 121 = I h_.Until → t 122 = I x_122 → OwnS h v5_1 1 (List.map eP_halls_bound all_5) → h.ob i7 = some (4, [[.rs i7_1 0 (List.length b_7_0), .rs i7_3 0 (List.length b_7_1), v7_1, v7_3]]) → i7 < h.nx → h.ob i7_1 = some (1, List.map eI b_7_0) → i7_1 < h.nx → h.ob i7_3 = some (1, List.map eI b_7_1) → i7_3 < h.nx → OwnS h v7_1 1 (List.map eI b_7_2) → OwnS h v7_3 1 (List.map eL_I b_7_3) → NotId v5_1 i7 → NotId v5_1 i7_1 → NotId v5_1 i7_3 → (∀ j, ¬NotId v5_1 j → NotId v7_1 j) → (∀ j, ¬NotId v5_1 j → NotId v7_3 j) → ¬i7 = i7_1 → ¬i7 = i7_3 → NotId v7_1 i7 → NotId v7_3 i7 → ¬i7_1 = i7_3 → NotId v7_1 i7_1 → NotId v7_3 i7_1 → NotId v7_1 i7_3 → NotId v7_3 i7_3 → (∀ j, ¬NotId v7_1 j → NotId v7_3 j) → halls_bounds_j20 open_ x_19 b_7_1 b_7_2 x_122 most_14 = some o → K19 t h := by
              try clear s1 s2 s5 s6 s7 s18 s19 s121 s122 qf q7 q0 qg q2 qh q1 q8 qo q9 qa qb qn qw q4 q5 qc qp q6 qd qq qe qr qx
              intro most_14 v7_3 t h s1 s2 s5 s6 s7 s13 s14 s18 s19 s121 s122 qf q7 q0 qg q2 qh q1 q8 qo q9 qa qb qn qw q4 q5 qc qp q6 qd qq qe qr qx hm2
              refine hK19 _ _ ?_
              unfold halls_bounds_j20 at hm2
              obtain ⟨l22, h_l22, hm2⟩ := bind_get hm2
              refine cw_reg_seq fun K hK => ?_
              simp only [go_sem, s7, s14, q7, q0, qg, q2, qh, q1, q9, qa, qb, q4, nsym q4, q5, nsym q5, qc, qp, q6, nsym q6, qd, qq, qe, qr, istr_of v5, istr_of v5_1, istr_of v7, istr_of v7_1, istr_of v7_2, istr_of v7_3]
              refine iapp_own (f := eI) (l := b_7_2) (m := ([most_14])) ?_ ?_ ?_ ?_ h_l22 ?_
              · exact (own_later q8 (by intro j hj hl; first | rfl | simp only [go_sem, hl, di_sym qn j hj, own_ne hj qc, own_ne hj qd, own_ne hj qe, qx j hj]) (by first | omega | exact Nat.le_refl _ | (simp only [go_sem, nxs] <;> omega)))
              · exact (ownx_rs (by simp only [go_sem, own_late qf, q7, q0, qg, q2, qh, q1, own_late q8, own_late qo, q9, qa, qb, q4, nsym q4, q5, nsym q5, qc, qp, q6, nsym q6, qd, qq, qe, qr, List.length_append, List.map_append]) (by simp only [go_sem, own_late qf, q7, q0, qg, q2, qh, q1, own_late q8, own_late qo, q9, qa, qb, q4, nsym q4, q5, nsym q5, qc, qp, q6, nsym q6, qd, qq, qe, qr, List.length_append, List.map_append]))
              · exact (nd_rs (by first | exact notid_nil | exact notid_rs (by first | omega | (simp only [nxs] <;> omega)) | assumption | exact own_notid (by assumption) (by first | omega | (simp only [go_sem, nxs] <;> omega))))
              · exact (fun _ => by simp)
              simp only [go_sem, s7, s14, q7, q0, qg, q2, qh, q1, q9, qa, qb, q4, nsym q4, q5, nsym q5, qc, qp, q6, nsym q6, qd, qq, qe, qr, istr_of v5, istr_of v5_1, istr_of v7, istr_of v7_1, istr_of v7_2, istr_of v7_3]
              refine hK _ _ ?_
              clear hK K
              obtain ⟨x27, h_x27, hm2⟩ := bind_get hm2
              have h_x270 := get_nn h_x27
              have h_x271 := get_lt h_x27
              obtain ⟨x28, h_x28, hm2⟩ := bind_get hm2
              have h_x280 := get_nn h_x28
              have h_x281 := get_lt h_x28
              obtain ⟨x29, h_x29, hm2⟩ := bind_get hm2
              have h_x290 := get_nn h_x29
              have h_x291 := get_lt h_x29
              obtain ⟨l30, h_l30, hm2⟩ := bind_get hm2
              refine cw_reg_k fun K hK => ?_
              simp only [go_sem, s1, s6, s7, s13, s14, q7, q0, qg, q2, qh, q1, q9, qa, qb, q4, nsym q4, q5, nsym q5, qc, qp, q6, nsym q6, qd, qq, qe, qr, ielem_get h_x27, irow_get h_x27, h_x270, h_x271, ielem_get h_x28, irow_get h_x28, h_x280, h_x281, ielem_get h_x29, irow_get h_x29, h_x290, h_x291, istr_of v5, istr_of v5_1, istr_of v7, istr_of v7_1, istr_of v7_2, istr_of v7_3]
              refine iapp_own (f := eI) (l := b_7_1) (m := ([wr (x27 + (mn most_14 x29))])) ?_ ?_ ?_ ?_ h_l30 ?_
              · exact (own_rs (by simp only [go_sem, own_late qf, q7, q0, qg, q2, qh, q1, own_late q8, own_late qo, q9, qa, qb, q4, nsym q4, q5, nsym q5, qc, qp, q6, nsym q6, qd, qq, qe, qr, List.length_append, List.map_append]) (by simp only [go_sem, own_late qf, q7, q0, qg, q2, qh, q1, own_late q8, own_late qo, q9, qa, qb, q4, nsym q4, q5, nsym q5, qc, qp, q6, nsym q6, qd, qq, qe, qr, List.length_append, List.map_append]) (by simp only [go_sem, q0, q2, q1]))
              · exact (ownx_rs (by simp only [go_sem, own_late qf, q7, q0, qg, q2, qh, q1, own_late q8, own_late qo, q9, qa, qb, q4, nsym q4, q5, nsym q5, qc, qp, q6, nsym q6, qd, qq, qe, qr, List.length_append, List.map_append]) (by simp only [go_sem, own_late qf, q7, q0, qg, q2, qh, q1, own_late q8, own_late qo, q9, qa, qb, q4, nsym q4, q5, nsym q5, qc, qp, q6, nsym q6, qd, qq, qe, qr, List.length_append, List.map_append]))
              · exact (nd_rs (by first | exact notid_nil | exact notid_rs (by first | omega | (simp only [nxs] <;> omega)) | assumption | exact own_notid (by assumption) (by first | omega | (simp only [go_sem, nxs] <;> omega))))
              · exact (fun _ => by simp)
              simp only [go_sem, s1, s6, s7, s13, s14, q7, q0, qg, q2, qh, q1, q9, qa, qb, q4, nsym q4, q5, nsym q5, qc, qp, q6, nsym q6, qd, qq, qe, qr, ielem_get h_x27, irow_get h_x27, h_x270, h_x271, ielem_get h_x28, irow_get h_x28, h_x280, h_x281, ielem_get h_x29, irow_get h_x29, h_x290, h_x291, istr_of v5, istr_of v5_1, istr_of v7, istr_of v7_1, istr_of v7_2, istr_of v7_3]
              refine hK _ _ ?_
              clear hK K
              simp only [qblock_normal, qseq_normal]
              exact J18 l30 l22 (nxs (nxs (nxs h.nx))) (nxs h.nx) v7_3 _ _ s1 s2 s5 s6 s7 s18 s19 s121 s122 (own_later qf (by intro j hj hl; first | rfl | simp only [go_sem, hl, q0, q1, own_ne hj q9, own_ne hj qb, qn j hj]) (by first | omega | exact Nat.le_refl _ | (simp only [go_sem, nxs] <;> omega))) (by simp only [go_sem, q7, q0, q1, own_late q8, q5, nsym q5, qc, List.length_append, List.map_append]) (by simp only [go_sem, q0]) (by simp only [go_sem, q0, qg, q2, q1, own_late q8, q4, nsym q4, q6, nsym q6, qd, List.length_append, List.map_append]) (by simp only [go_sem, q2]) (by simp only [go_sem, q0, q1, own_late q8, List.length_append, List.map_append]) (by simp only [go_sem]) (by simp only [go_sem, q0, q1, own_late q8, List.length_append, List.map_append]) (by simp only [go_sem]) (own_later qo (by intro j hj hl; first | rfl | simp only [go_sem, hl, q0, q1, own_ne hj qp, own_ne hj qr, di_sym qx j hj]) (by first | omega | exact Nat.le_refl _ | (simp only [go_sem, nxs] <;> omega))) q9 qa (by first | exact notid_nil | exact notid_rs (by first | assumption | omega | (simp only [nxs] <;> omega)) | assumption | exact own_notid (by assumption) (by first | assumption | omega | (simp only [nxs] <;> omega))) (by first | exact notid_nil | exact notid_rs (by first | assumption | omega | (simp only [nxs] <;> omega)) | assumption | exact own_notid (by assumption) (by first | assumption | omega | (simp only [nxs] <;> omega))) qw q4 (by first | first | assumption | omega | (simp only [nxs] <;> omega)) (by first | first | assumption | omega | (simp only [nxs] <;> omega)) qp (by first | first | assumption | omega | (simp only [nxs] <;> omega)) (by first | first | assumption | omega | (simp only [nxs] <;> omega)) qq (by first | first | assumption | omega | (simp only [nxs] <;> omega)) (by first | exact notid_nil | exact notid_rs (by first | assumption | omega | (simp only [nxs] <;> omega)) | assumption | exact own_notid (by assumption) (by first | assumption | omega | (simp only [nxs] <;> omega))) (by first | exact notid_nil | exact notid_rs (by first | assumption | omega | (simp only [nxs] <;> omega)) | assumption | exact own_notid (by assumption) (by first | assumption | omega | (simp only [nxs] <;> omega))) hm2
            simp only [cw_block]
            obtain ⟨b31, hl31, hm2⟩ := bind_get hm2
            refine cw_loopM hl31 (fun | (most_14, x_127), t, h => ∃ v7_3 : AV, t 1 = .fs 1 (List.map eL_I open_) ∧ t 2 = .fp [.fs 5 (List.map eComb h_.Combs), .fs 3 (List.map eTrain h_.Trains), .fs 3 (List.map eShift h_.Shifts), I h_.Until] 0 ∧ t 5 = v5_1 ∧ t 6 = I x_19 ∧ t 7 = .rp i7 0 0 ∧ t 13 = I x_122 ∧ t 14 = I most_14 ∧ t 18 = I (List.length h_.Combs : Int) ∧ t 19 = I x_19 ∧ t 121 = I h_.Until ∧ t 122 = I x_122 ∧ t 126 = I (wr (x_122 + 1)) ∧ t 127 = I x_127 ∧ OwnS h v5_1 1 (List.map eP_halls_bound all_5) ∧ h.ob i7 = some (4, [[.rs i7_1 0 (List.length b_7_0), .rs i7_3 0 (List.length b_7_1), v7_1, v7_3]]) ∧ i7 < h.nx ∧ h.ob i7_1 = some (1, List.map eI b_7_0) ∧ i7_1 < h.nx ∧ h.ob i7_3 = some (1, List.map eI b_7_1) ∧ i7_3 < h.nx ∧ OwnS h v7_1 1 (List.map eI b_7_2) ∧ OwnS h v7_3 1 (List.map eL_I b_7_3) ∧ NotId v5_1 i7 ∧ NotId v5_1 i7_1 ∧ NotId v5_1 i7_3 ∧ (∀ j, ¬NotId v5_1 j → NotId v7_1 j) ∧ (∀ j, ¬NotId v5_1 j → NotId v7_3 j) ∧ ¬i7 = i7_1 ∧ ¬i7 = i7_3 ∧ NotId v7_1 i7 ∧ NotId v7_3 i7 ∧ ¬i7_1 = i7_3 ∧ NotId v7_1 i7_1 ∧ NotId v7_3 i7_1 ∧ NotId v7_1 i7_3 ∧ NotId v7_3 i7_3 ∧ (∀ j, ¬NotId v7_1 j → NotId v7_3 j)) ?_ ?_
            · exact ⟨v7_2, s1, s2, s5, s6, s7, (by first | (simp only [go_sem, List.length_append, List.map_append]; done) | rfl), (by first | (simp only [go_sem, List.length_append, List.map_append]; done) | rfl), s18, s19, s121, s122, (by first | (simp only [go_sem, List.length_append, List.map_append]; done) | rfl), (by first | (simp only [go_sem, List.length_append, List.map_append]; done) | rfl), qf, q7, q0, qg, q2, qh, q1, q8, qo, q9, qa, qb, qn, qw, q4, q5, qc, qp, q6, qd, qq, qe, qr, qx⟩
            · try clear s1 s2 s5 s6 s7 s18 s19 s121 s122 qf q7 q0 qg q2 qh q1 q8 qo q9 qa qb qn qw q4 q5 qc qp q6 qd qq qe qr qx
              rintro ⟨most_14, x_127⟩ o t h ⟨v7_3, s1, s2, s5, s6, s7, s13, s14, s18, s19, s121, s122, s126, s127, qf, q7, q0, qg, q2, qh, q1, q8, qo, q9, qa, qb, qn, qw, q4, q5, qc, qp, q6, qd, qq, qe, qr, qx⟩ hm3 hb31
              simp only [halls_bounds_L35] at hm3
              rw [x_halls_bounds_L35]
              refine cw_reg_seq fun K hK => ?_
              simp only [go_sem, s126, s127, q0, q2, q1, istr_of v5, istr_of v5_1, istr_of v7, istr_of v7_1, istr_of v7_2, istr_of v7_3]
              refine hK _ _ ?_
              clear hK K
              refine cw_seq_k fun K32 hK32 => ?_
              simp only [go_sem]
              refine ibr_intro (fun hc33 => ?_) (fun hc33 => ?_)
              · rw [if_t hc33] at hm3
                simp only [cw_skip, qblock_normal, qseq_normal]
                refine hK32 _ _ ?_
                refine cw_seq_k fun K34 hK34 => ?_
                simp only [cw_block]
                refine cw_reg_seq fun K hK => ?_
                simp only [go_sem, s127, q0, q2, q1, istr_of v5, istr_of v5_1, istr_of v7, istr_of v7_1, istr_of v7_2, istr_of v7_3]
                refine hK _ _ ?_
                clear hK K
                obtain ⟨x40, h_x40, hm3⟩ := bind_get hm3
                have h_x400 := get_nn h_x40
                have h_x401 := get_lt h_x40
                obtain ⟨iq41, rfl, q17, q13⟩ := own_get qo h_x40
                obtain ⟨x42, h_x42, hm3⟩ := bind_get hm3
                have h_x420 := get_nn h_x42
                have h_x421 := get_lt h_x42
                obtain ⟨x43, h_x43, hm3⟩ := bind_get hm3
                have h_x430 := get_nn h_x43
                have h_x431 := get_lt h_x43
                obtain ⟨x44, h_x44, hm3⟩ := bind_get hm3
                have h_x440 := get_nn h_x44
                have h_x441 := get_lt h_x44
                refine cw_reg_k fun K hK => ?_
                simp only [go_sem, s7, s13, s14, q7, q0, qg, q2, qh, q1, q17, q13, q9, qa, qb, q4, nsym q4, q5, nsym q5, qc, qp, q6, nsym q6, qd, qq, qe, qr, ielem_get h_x40, irow_get h_x40, h_x400, h_x401, ielem_get h_x42, irow_get h_x42, h_x420, h_x421, ielem_get h_x43, irow_get h_x43, h_x430, h_x431, ielem_get h_x44, irow_get h_x44, h_x440, h_x441, istr_of v5, istr_of v5_1, istr_of v7, istr_of v7_1, istr_of v7_2]
                refine hK _ _ ?_
                clear hK K
                simp only [qblock_normal, qseq_normal]
                refine hK34 _ _ ?_
                refine cw_reg_k fun K hK => ?_
                simp only [go_sem, s127, q0, q2, q1, q13, istr_of v5, istr_of v5_1, istr_of v7, istr_of v7_1, istr_of v7_2]
                refine hK _ _ ?_
                clear hK K
                simp only [qblock_normal, qseq_normal]
                obtain rfl := Option.some.inj hm3
                refine ⟨_, rfl, ?_⟩
                exact ⟨(.rs iq41 0 (List.length b_7_3)), s1, s2, s5, s6, s7, s13, (by first | (simp only [go_sem, s14, List.length_append, List.map_append]; done) | rfl), s18, s19, s121, s122, s126, (by first | (simp only [go_sem, s127, List.length_append, List.map_append]; done) | rfl), qf, (by simp only [go_sem, q7, q0, List.length_append, List.map_append]), (by simp only [go_sem, q0]), qg, q2, qh, q1, q8, (own_rs (by simp only [go_sem, q17, q13, List.length_append, List.map_append]) (by first | rfl | simp only [go_sem, List.length_append, List.map_append]) (by simp only [go_sem, q13])), q9, qa, qb, qn, qw, q4, q5, qc, qp, q6, qd, qq, qe, qr, qx⟩
              · rw [if_f hc33] at hm3
                simp only [cw_exit, qseq_exit, qblock_same, qblock_ne, qblock_normal, qseq_normal, Nat.reduceEqDiff, not_false_eq_true]
                obtain rfl := Option.some.inj hm3
                obtain rfl := hb31 _ rfl
                try dsimp only at hm2
                exact J20 most_14 v7_3 _ _ s1 s2 s5 s6 s7 s13 s14 s18 s19 s121 s122 qf q7 q0 qg q2 qh q1 q8 qo q9 qa qb qn qw q4 q5 qc qp q6 qd qq qe qr qx hm2
          · rw [if_f hc16] at hm2
            simp only [cw_exit, qseq_exit, qblock_same, qblock_ne, qblock_normal, qseq_normal, Nat.reduceEqDiff, not_false_eq_true]
            obtain rfl := Option.some.inj hm2
            obtain rfl := hb14 _ rfl
            try dsimp only at hm1
            exact J11 b_7_1 b_7_2 i7_3 v7_1 v7_2 _ _ s1 s2 s5 s7 s18 s19 qf q7 q0 qg q2 qh q1 q8 qo q9 qa qb qn qw q4 q5 qc qp q6 qd qq qe qr qx hm1
      simp only [cw_block]
      obtain ⟨b47, hl47, hm1⟩ := bind_get hm1
      refine cw_loopM hl47 (fun | (b_7_0, b_7_3, x_28), t, h => ∃ v5_1 : AV, ∃ i7 : Nat, ∃ i7_1 : Nat, ∃ i7_2 : Nat, ∃ v7 : AV, t 1 = .fs 1 (List.map eL_I open_) ∧ t 2 = .fp [.fs 5 (List.map eComb h_.Combs), .fs 3 (List.map eTrain h_.Trains), .fs 3 (List.map eShift h_.Shifts), I h_.Until] 0 ∧ t 5 = v5_1 ∧ t 6 = I x_19 ∧ t 7 = .rp i7 0 0 ∧ t 18 = I (List.length h_.Combs : Int) ∧ t 19 = I x_19 ∧ t 27 = I h_.Until ∧ t 28 = I x_28 ∧ OwnS h v5_1 1 (List.map eP_halls_bound all_5) ∧ h.ob i7 = some (4, [[.rs i7_1 0 (List.length b_7_0), .rs i7_2 0 (List.length ([0])), .v (.slice none 0 0), v7]]) ∧ i7 < h.nx ∧ h.ob i7_1 = some (1, List.map eI b_7_0) ∧ i7_1 < h.nx ∧ h.ob i7_2 = some (1, List.map eI ([0])) ∧ i7_2 < h.nx ∧ OwnS h v7 1 (List.map eL_I b_7_3) ∧ NotId v5_1 i7 ∧ NotId v5_1 i7_1 ∧ NotId v5_1 i7_2 ∧ (∀ j, ¬NotId v5_1 j → NotId v7 j) ∧ ¬i7 = i7_1 ∧ ¬i7 = i7_2 ∧ NotId v7 i7 ∧ ¬i7_1 = i7_2 ∧ NotId v7 i7_1 ∧ NotId v7 i7_2) ?_ ?_
      · exact ⟨v5, (nxs (nxs h.nx)), h.nx, (nxs h.nx), (.v (.slice none 0 0)), s1, s2, s5, (by first | (simp only [go_sem, List.length_append, List.map_append]; done) | rfl), (by first | (simp only [go_sem, List.length_append, List.map_append]; done) | rfl), s18, s19, (by first | (simp only [go_sem, List.length_append, List.map_append]; done) | rfl), (by first | (simp only [go_sem, List.length_append, List.map_append]; done) | rfl), (own_later qf (by intro j hj hl; first | rfl | simp only [go_sem, hl]) (by first | omega | exact Nat.le_refl _ | (simp only [go_sem, nxs] <;> omega))), (by simp only [go_sem, List.length_append, List.map_append]), (by simp only [go_sem]), (by simp only [go_sem, List.length_append, List.map_append]), (by simp only [go_sem]), (by simp only [go_sem, List.length_append, List.map_append]), (by simp only [go_sem]), own_nil', (by first | exact notid_nil | exact notid_rs (by first | assumption | omega | (simp only [nxs] <;> omega)) | assumption | exact own_notid (by assumption) (by first | assumption | omega | (simp only [nxs] <;> omega))), (by first | exact notid_nil | exact notid_rs (by first | assumption | omega | (simp only [nxs] <;> omega)) | assumption | exact own_notid (by assumption) (by first | assumption | omega | (simp only [nxs] <;> omega))), (by first | exact notid_nil | exact notid_rs (by first | assumption | omega | (simp only [nxs] <;> omega)) | assumption | exact own_notid (by assumption) (by first | assumption | omega | (simp only [nxs] <;> omega))), (by first | exact dis_nil_l | exact dis_nil_r | assumption | (refine dis_rs_l ?_; first | assumption | exact own_notid (by assumption) (by first | assumption | omega | (simp only [nxs] <;> omega))) | (refine nd_rs ?_; first | assumption | exact own_notid (by assumption) (by first | assumption | omega | (simp only [nxs] <;> omega)))), (by first | first | assumption | omega | (simp only [nxs] <;> omega)), (by first | first | assumption | omega | (simp only [nxs] <;> omega)), (by first | exact notid_nil | exact notid_rs (by first | assumption | omega | (simp only [nxs] <;> omega)) | assumption | exact own_notid (by assumption) (by first | assumption | omega | (simp only [nxs] <;> omega))), (by first | first | assumption | omega | (simp only [nxs] <;> omega)), (by first | exact notid_nil | exact notid_rs (by first | assumption | omega | (simp only [nxs] <;> omega)) | assumption | exact own_notid (by assumption) (by first | assumption | omega | (simp only [nxs] <;> omega))), (by first | exact notid_nil | exact notid_rs (by first | assumption | omega | (simp only [nxs] <;> omega)) | assumption | exact own_notid (by assumption) (by first | assumption | omega | (simp only [nxs] <;> omega)))⟩
      · rintro ⟨b_7_0, b_7_3, x_28⟩ o t h ⟨v5_1, i7, i7_1, i7_2, v7, s1, s2, s5, s6, s7, s18, s19, s27, s28, qf, q7, q0, qg, q2, qh, q1, q8, q9, qa, qb, qn, q4, q5, qc, q6, qd, qe⟩ hm2 hb47
        simp only [halls_bounds_L25] at hm2
        rw [x_halls_bounds_L25]
        refine cw_reg_seq fun K hK => ?_
        simp only [go_sem, s27, s28, q0, q2, q1, istr_of v5, istr_of v5_1, istr_of v7]
        refine hK _ _ ?_
        clear hK K
        refine cw_seq_k fun K48 hK48 => ?_
        simp only [go_sem]
        refine ibr_intro (fun hc49 => ?_) (fun hc49 => ?_)
        · rw [if_t hc49] at hm2
          simp only [cw_skip, qblock_normal, qseq_normal]
          refine hK48 _ _ ?_
          refine cw_seq_k fun K50 hK50 => ?_
          have J51 : ∀ (b_7_0_1 : List Int) (b_7_3_1 : List (List Int)) (v5_2 : AV) (i7_3 : Nat) (i7_4 : Nat) (t : Slots) (h : Heap), t 1 = .fs 1 (List.map eL_I open_) → t 2 = .fp [.fs 5 (List.map eComb h_.Combs), .fs 3 (List.map eTrain h_.Trains), .fs 3 (List.map eShift h_.Shifts), I h_.Until] 0 → t 5 = v5_2 → t 6 = I x_19 → t 7 = .rp i7 0 0 → t 18 = I (List.length h_.Combs : Int) → t 19 = I x_19 → t 27 = I h_.Until → t 28 = I x_28 → OwnS h v5_2 1 (List.map eP_halls_bound all_5) → h.ob i7 = some (4, [[.rs i7_3 0 (List.length b_7_0_1), .rs i7_2 0 (List.length ([0])), .v (.slice none 0 0), .rs i7_4 0 (List.length b_7_3_1)]]) → i7 < h.nx → h.ob i7_3 = some (1, List.map eI b_7_0_1) → i7_3 < h.nx → h.ob i7_2 = some (1, List.map eI ([0])) → i7_2 < h.nx → h.ob i7_4 = some (1, List.map eL_I b_7_3_1) → i7_4 < h.nx → NotId v5_2 i7 → NotId v5_2 i7_3 → NotId v5_2 i7_2 → NotId v5_2 i7_4 → ¬i7 = i7_3 → ¬i7 = i7_2 → ¬i7 = i7_4 → ¬i7_3 = i7_2 → ¬i7_3 = i7_4 → ¬i7_2 = i7_4 → halls_bounds_j51 x_28 b_7_0_1 b_7_3_1 = some o → K50 t h := by
            try clear s1 s2 s5 s6 s7 s18 s19 s27 s28 qf q7 q0 qg q2 qh q1 q8 q9 qa qb qn q4 q5 qc q6 qd qe
            intro b_7_0_1 b_7_3_1 v5_2 i7_3 i7_4 t h s1 s2 s5 s6 s7 s18 s19 s27 s28 qf q7 q0 qg q2 qh q1 q15 q11 q9 qa qb q1a q4 q5 q1b q6 q1c q1d hm2
            refine hK50 _ _ ?_
            unfold halls_bounds_j51 at hm2
            refine cw_reg_k fun K hK => ?_
            simp only [go_sem, s28, q0, q2, q1, q11, istr_of v5, istr_of v5_1, istr_of v7, istr_of v5_2]
            refine hK _ _ ?_
            clear hK K
            simp only [qblock_normal, qseq_normal]
            obtain rfl := Option.some.inj hm2
            refine ⟨_, rfl, ?_⟩
            exact ⟨v5_2, i7, i7_3, i7_2, (.rs i7_4 0 (List.length b_7_3_1)), s1, s2, s5, s6, s7, s18, s19, s27, (by first | (simp only [go_sem, s28, List.length_append, List.map_append]; done) | rfl), qf, q7, q0, qg, q2, qh, q1, (own_rs (by simp only [go_sem, q15, q11, List.length_append, List.map_append]) (by first | rfl | simp only [go_sem, List.length_append, List.map_append]) (by simp only [go_sem, q11])), q9, qa, qb, (by first | exact dis_nil_l | exact dis_nil_r | assumption | (refine dis_rs_l ?_; first | assumption | exact own_notid (by assumption) (by first | assumption | omega | (simp only [nxs] <;> omega))) | (refine nd_rs ?_; first | assumption | exact own_notid (by assumption) (by first | assumption | omega | (simp only [nxs] <;> omega)))), q4, q5, (by first | exact notid_nil | exact notid_rs (by first | assumption | omega | (simp only [nxs] <;> omega)) | assumption | exact own_notid (by assumption) (by first | assumption | omega | (simp only [nxs] <;> omega))), q6, (by first | exact notid_nil | exact notid_rs (by first | assumption | omega | (simp only [nxs] <;> omega)) | assumption | exact own_notid (by assumption) (by first | assumption | omega | (simp only [nxs] <;> omega))), (by first | exact notid_nil | exact notid_rs (by first | assumption | omega | (simp only [nxs] <;> omega)) | assumption | exact own_notid (by assumption) (by first | assumption | omega | (simp only [nxs] <;> omega)))⟩
          simp only [cw_block]
          refine cw_reg_seq fun K hK => ?_
          simp only [go_sem, s28, q0, q2, q1, istr_of v5, istr_of v5_1, istr_of v7]
          refine hK _ _ ?_
          clear hK K
          obtain ⟨l53, h_l53, hm2⟩ := bind_get hm2
          refine cw_reg_seq fun K hK => ?_
          simp only [go_sem, s2, q0, q2, q1, istr_of v5, istr_of v5_1, istr_of v7]
          refine imksl_ok (f := eI) (z := 0) rfl h_l53 ?_
          simp only [go_sem, s2, q0, q2, q1, istr_of v5, istr_of v5_1, istr_of v7]
          refine hK _ _ ?_
          clear hK K
          refine cw_assoc ?_
          refine cw_reg_seq fun K hK => ?_
          simp only [go_sem, q0, q2, q1, istr_of v5, istr_of v5_1, istr_of v7]
          refine hK _ _ ?_
          clear hK K
          refine cw_seq_k fun K54 hK54 => ?_
          have J55 : ∀ (row_9 : List Int) (v5_2 : AV) (i9 : Nat) (t : Slots) (h : Heap), t 1 = .fs 1 (List.map eL_I open_) → t 2 = .fp [.fs 5 (List.map eComb h_.Combs), .fs 3 (List.map eTrain h_.Trains), .fs 3 (List.map eShift h_.Shifts), I h_.Until] 0 → t 5 = v5_2 → t 6 = I x_19 → t 7 = .rp i7 0 0 → t 8 = I x_28 → t 9 = .rs i9 0 (List.length row_9) → t 18 = I (List.length h_.Combs : Int) → t 19 = I x_19 → t 27 = I h_.Until → t 28 = I x_28 → OwnS h v5_2 1 (List.map eP_halls_bound all_5) → h.ob i7 = some (4, [[.rs i7_1 0 (List.length b_7_0), .rs i7_2 0 (List.length ([0])), .v (.slice none 0 0), v7]]) → i7 < h.nx → h.ob i7_1 = some (1, List.map eI b_7_0) → i7_1 < h.nx → h.ob i7_2 = some (1, List.map eI ([0])) → i7_2 < h.nx → OwnS h v7 1 (List.map eL_I b_7_3) → h.ob i9 = some (1, List.map eI row_9) → i9 < h.nx → NotId v5_2 i7 → NotId v5_2 i7_1 → NotId v5_2 i7_2 → (∀ j, ¬NotId v5_2 j → NotId v7 j) → NotId v5_2 i9 → ¬i7 = i7_1 → ¬i7 = i7_2 → NotId v7 i7 → ¬i7 = i9 → ¬i7_1 = i7_2 → NotId v7 i7_1 → ¬i7_1 = i9 → NotId v7 i7_2 → ¬i7_2 = i9 → NotId v7 i9 → halls_bounds_j55 open_ x_19 b_7_0 b_7_3 x_28 row_9 = some o → K54 t h := by
            try clear s1 s2 s5 s6 s7 s18 s19 s27 s28 qf q7 q0 qg q2 qh q1 q8 q9 qa qb qn q4 q5 qc q6 qd qe
            intro row_9 v5_2 i9 t h s1 s2 s5 s6 s7 s8 s9 s18 s19 s27 s28 qf q7 q0 qg q2 qh q1 q8 qu qi q9 qa qb qn qs q4 q5 qc qk q6 qd qm qe ql qt hm2
            refine hK54 _ _ ?_
            unfold halls_bounds_j55 at hm2
            refine cw_assoc ?_
            refine cw_ghost_own (s := 9) (v := .rs i9 0 (List.length row_9)) (f := eI) (l := row_9) (by simp only [go_sem, s9, own_late qf, q7, q0, qg, q2, qh, q1, own_late q8, qu, qi, q9, qa, qb, qs, q4, nsym q4, q5, nsym q5, qc, qk, nsym qk, q6, nsym q6, qd, qm, nsym qm, qe, ql, nsym ql, qt, List.length_append, List.map_append]) (own_rs (by simp only [go_sem, s9, own_late qf, q7, q0, qg, q2, qh, q1, own_late q8, qu, qi, q9, qa, qb, qs, q4, nsym q4, q5, nsym q5, qc, qk, nsym qk, q6, nsym q6, qd, qm, nsym qm, qe, ql, nsym ql, qt, List.length_append, List.map_append]) (by simp only [go_sem, s9, own_late qf, q7, q0, qg, q2, qh, q1, own_late q8, qu, qi, q9, qa, qb, qs, q4, nsym q4, q5, nsym q5, qc, qk, nsym qk, q6, nsym q6, qd, qm, nsym qm, qe, ql, nsym ql, qt, List.length_append, List.map_append]) (by simp only [go_sem, q0, q2, q1, qi])) fz_eI ln_eI ?_
            simp only [frzH_nil, frzH_rs]
            obtain ⟨l57, h_l57, hm2⟩ := bind_get hm2
            refine cw_reg_seq fun K hK => ?_
            simp only [go_sem, s7, s9, q7, q0, qg, q2, qh, q1, qi, q9, qa, qb, q4, nsym q4, q5, nsym q5, qc, qk, nsym qk, q6, nsym q6, qd, qm, nsym qm, qe, ql, nsym ql, qt, istr_of v5, istr_of v5_1, istr_of v7, istr_of v5_2]
            refine iapp_own (f := eL_I) (l := b_7_3) (m := ([row_9])) ?_ ?_ ?_ ?_ h_l57 ?_
            · exact (own_later q8 (by intro j hj hl; first | rfl | simp only [go_sem, hl, di_sym qn j hj, own_ne hj qc, own_ne hj qd, own_ne hj qe, own_ne hj qt]) (by first | omega | exact Nat.le_refl _ | (simp only [go_sem, nxs] <;> omega)))
            · exact (ownx_rs (by simp only [go_sem, own_late qf, q7, q0, qg, q2, qh, q1, own_late q8, qu, qi, q9, qa, qb, qs, q4, nsym q4, q5, nsym q5, qc, qk, nsym qk, q6, nsym q6, qd, qm, nsym qm, qe, ql, nsym ql, qt, List.length_append, List.map_append]) (by simp only [go_sem, own_late qf, q7, q0, qg, q2, qh, q1, own_late q8, qu, qi, q9, qa, qb, qs, q4, nsym q4, q5, nsym q5, qc, qk, nsym qk, q6, nsym q6, qd, qm, nsym qm, qe, ql, nsym ql, qt, List.length_append, List.map_append]))
            · exact (nd_rs (by first | exact notid_nil | exact notid_rs (by first | omega | (simp only [nxs] <;> omega)) | assumption | exact own_notid (by assumption) (by first | omega | (simp only [go_sem, nxs] <;> omega))))
            · exact (fun _ => by simp)
            simp only [go_sem, s7, s9, q7, q0, qg, q2, qh, q1, qi, q9, qa, qb, q4, nsym q4, q5, nsym q5, qc, qk, nsym qk, q6, nsym q6, qd, qm, nsym qm, qe, ql, nsym ql, qt, istr_of v5, istr_of v5_1, istr_of v7, istr_of v5_2]
            refine hK _ _ ?_
            clear hK K
            obtain ⟨x62, h_x62, hm2⟩ := bind_get hm2
            have h_x620 := get_nn h_x62
            have h_x621 := get_lt h_x62
            obtain ⟨x63, h_x63, hm2⟩ := bind_get hm2
            have h_x630 := get_nn h_x63
            have h_x631 := get_lt h_x63
            obtain ⟨x64, h_x64, hm2⟩ := bind_get hm2
            have h_x640 := get_nn h_x64
            have h_x641 := get_lt h_x64
            obtain ⟨l65, h_l65, hm2⟩ := bind_get hm2
            refine cw_reg_k fun K hK => ?_
            simp only [go_sem, s1, s6, s7, s8, q7, q0, qg, q2, qh, q1, qi, q9, qa, qb, q4, nsym q4, q5, nsym q5, qc, qk, nsym qk, q6, nsym q6, qd, qm, nsym qm, qe, ql, nsym ql, ielem_get h_x62, irow_get h_x62, h_x620, h_x621, ielem_get h_x63, irow_get h_x63, h_x630, h_x631, ielem_get h_x64, irow_get h_x64, h_x640, h_x641, istr_of v5, istr_of v5_1, istr_of v7, istr_of v5_2]
            refine iapp_own (f := eI) (l := b_7_0) (m := ([wr (x62 + x64)])) ?_ ?_ ?_ ?_ h_l65 ?_
            · exact (own_rs (by simp only [go_sem, own_late qf, q7, q0, qg, q2, qh, q1, own_late q8, qu, qi, q9, qa, qb, qs, q4, nsym q4, q5, nsym q5, qc, qk, nsym qk, q6, nsym q6, qd, qm, nsym qm, qe, ql, nsym ql, qt, List.length_append, List.map_append]) (by simp only [go_sem, own_late qf, q7, q0, qg, q2, qh, q1, own_late q8, qu, qi, q9, qa, qb, qs, q4, nsym q4, q5, nsym q5, qc, qk, nsym qk, q6, nsym q6, qd, qm, nsym qm, qe, ql, nsym ql, qt, List.length_append, List.map_append]) (by simp only [go_sem, q0, q2, q1, qi]))
            · exact (ownx_rs (by simp only [go_sem, own_late qf, q7, q0, qg, q2, qh, q1, own_late q8, qu, qi, q9, qa, qb, qs, q4, nsym q4, q5, nsym q5, qc, qk, nsym qk, q6, nsym q6, qd, qm, nsym qm, qe, ql, nsym ql, qt, List.length_append, List.map_append]) (by simp only [go_sem, own_late qf, q7, q0, qg, q2, qh, q1, own_late q8, qu, qi, q9, qa, qb, qs, q4, nsym q4, q5, nsym q5, qc, qk, nsym qk, q6, nsym q6, qd, qm, nsym qm, qe, ql, nsym ql, qt, List.length_append, List.map_append]))
            · exact (nd_rs (by first | exact notid_nil | exact notid_rs (by first | omega | (simp only [nxs] <;> omega)) | assumption | exact own_notid (by assumption) (by first | omega | (simp only [go_sem, nxs] <;> omega))))
            · exact (fun _ => by simp)
            simp only [go_sem, s1, s6, s7, s8, q7, q0, qg, q2, qh, q1, qi, q9, qa, qb, q4, nsym q4, q5, nsym q5, qc, qk, nsym qk, q6, nsym q6, qd, qm, nsym qm, qe, ql, nsym ql, ielem_get h_x62, irow_get h_x62, h_x620, h_x621, ielem_get h_x63, irow_get h_x63, h_x630, h_x631, ielem_get h_x64, irow_get h_x64, h_x640, h_x641, istr_of v5, istr_of v5_1, istr_of v7, istr_of v5_2]
            refine hK _ _ ?_
            clear hK K
            simp only [qblock_normal, qseq_normal]
            exact J51 l65 l57 v5_2 (nxs (nxs (nxs h.nx))) (nxs h.nx) _ _ s1 s2 s5 s6 s7 s18 s19 s27 s28 (own_later qf (by intro j hj hl; first | rfl | simp only [go_sem, hl, q0, q2, qi, own_ne hj q9, own_ne hj qa, qn j hj, own_ne hj qs]) (by first | omega | exact Nat.le_refl _ | (simp only [go_sem, nxs] <;> omega))) (by simp only [go_sem, q7, q0, q2, own_late q8, qi, q4, nsym q4, qc, qk, nsym qk, List.length_append, List.map_append]) (by simp only [go_sem, q0]) (by simp only [go_sem, q0, q2, own_late q8, qi, List.length_append, List.map_append]) (by simp only [go_sem]) (by simp only [go_sem, q0, q2, qh, q1, own_late q8, qi, q5, nsym q5, q6, nsym q6, qe, ql, nsym ql, List.length_append, List.map_append]) (by simp only [go_sem, q1]) (by simp only [go_sem, q0, q2, own_late q8, qi, List.length_append, List.map_append]) (by simp only [go_sem]) q9 (by first | exact notid_nil | exact notid_rs (by first | assumption | omega | (simp only [nxs] <;> omega)) | assumption | exact own_notid (by assumption) (by first | assumption | omega | (simp only [nxs] <;> omega))) qb (by first | exact notid_nil | exact notid_rs (by first | assumption | omega | (simp only [nxs] <;> omega)) | assumption | exact own_notid (by assumption) (by first | assumption | omega | (simp only [nxs] <;> omega))) (by first | first | assumption | omega | (simp only [nxs] <;> omega)) q5 (by first | first | assumption | omega | (simp only [nxs] <;> omega)) (by first | first | assumption | omega | (simp only [nxs] <;> omega)) (by first | first | assumption | omega | (simp only [nxs] <;> omega)) (by first | first | assumption | omega | (simp only [nxs] <;> omega)) hm2
          simp only [cw_block]
          obtain ⟨b66, hl66, hm2⟩ := bind_get hm2
          refine cw_loopM hl66 (fun | (row_9, t_10), t, h => ∃ v5_2 : AV, ∃ i9 : Nat, t 1 = .fs 1 (List.map eL_I open_) ∧ t 2 = .fp [.fs 5 (List.map eComb h_.Combs), .fs 3 (List.map eTrain h_.Trains), .fs 3 (List.map eShift h_.Shifts), I h_.Until] 0 ∧ t 5 = v5_2 ∧ t 6 = I x_19 ∧ t 7 = .rp i7 0 0 ∧ t 8 = I x_28 ∧ t 9 = .rs i9 0 (List.length row_9) ∧ t 10 = I t_10 ∧ t 18 = I (List.length h_.Combs : Int) ∧ t 19 = I x_19 ∧ t 27 = I h_.Until ∧ t 28 = I x_28 ∧ OwnS h v5_2 1 (List.map eP_halls_bound all_5) ∧ h.ob i7 = some (4, [[.rs i7_1 0 (List.length b_7_0), .rs i7_2 0 (List.length ([0])), .v (.slice none 0 0), v7]]) ∧ i7 < h.nx ∧ h.ob i7_1 = some (1, List.map eI b_7_0) ∧ i7_1 < h.nx ∧ h.ob i7_2 = some (1, List.map eI ([0])) ∧ i7_2 < h.nx ∧ OwnS h v7 1 (List.map eL_I b_7_3) ∧ h.ob i9 = some (1, List.map eI row_9) ∧ i9 < h.nx ∧ NotId v5_2 i7 ∧ NotId v5_2 i7_1 ∧ NotId v5_2 i7_2 ∧ (∀ j, ¬NotId v5_2 j → NotId v7 j) ∧ NotId v5_2 i9 ∧ ¬i7 = i7_1 ∧ ¬i7 = i7_2 ∧ NotId v7 i7 ∧ ¬i7 = i9 ∧ ¬i7_1 = i7_2 ∧ NotId v7 i7_1 ∧ ¬i7_1 = i9 ∧ NotId v7 i7_2 ∧ ¬i7_2 = i9 ∧ NotId v7 i9) ?_ ?_
          · exact ⟨v5_1, h.nx, s1, s2, s5, s6, s7, (by first | (simp only [go_sem, List.length_append, List.map_append]; done) | rfl), (by first | (simp only [go_sem, List.length_append, List.map_append]; done) | rfl), (by first | (simp only [go_sem, List.length_append, List.map_append]; done) | rfl), s18, s19, s27, s28, (own_later qf (by intro j hj hl; first | rfl | simp only [go_sem, hl]) (by first | omega | exact Nat.le_refl _ | (simp only [go_sem, nxs] <;> omega))), (by simp only [go_sem, q7, q0, List.length_append, List.map_append]), (by simp only [go_sem, q0]), (by simp only [go_sem, qg, q2, List.length_append, List.map_append]), (by simp only [go_sem, q2]), (by simp only [go_sem, qh, q1, List.length_append, List.map_append]), (by simp only [go_sem, q1]), (own_later q8 (by intro j hj hl; first | rfl | simp only [go_sem, hl]) (by first | omega | exact Nat.le_refl _ | (simp only [go_sem, nxs] <;> omega))), (by simp only [go_sem, List.length_append, List.map_append]), (by simp only [go_sem]), q9, qa, qb, qn, (by first | exact notid_nil | exact notid_rs (by first | assumption | omega | (simp only [nxs] <;> omega)) | assumption | exact own_notid (by assumption) (by first | assumption | omega | (simp only [nxs] <;> omega))), q4, q5, qc, (by first | first | assumption | omega | (simp only [nxs] <;> omega)), q6, qd, (by first | first | assumption | omega | (simp only [nxs] <;> omega)), qe, (by first | first | assumption | omega | (simp only [nxs] <;> omega)), (by first | exact notid_nil | exact notid_rs (by first | assumption | omega | (simp only [nxs] <;> omega)) | assumption | exact own_notid (by assumption) (by first | assumption | omega | (simp only [nxs] <;> omega)))⟩
          · try clear s1 s2 s5 s6 s7 s18 s19 s27 s28 qf q7 q0 qg q2 qh q1 q8 q9 qa qb qn q4 q5 qc q6 qd qe
            rintro ⟨row_9, t_10⟩ o t h ⟨v5_2, i9, s1, s2, s5, s6, s7, s8, s9, s10, s18, s19, s27, s28, qf, q7, q0, qg, q2, qh, q1, q8, qu, qi, q9, qa, qb, qn, qs, q4, q5, qc, qk, q6, qd, qm, qe, ql, qt⟩ hm3 hb66
            simp only [halls_bounds_L21] at hm3
            rw [x_halls_bounds_L21]
            refine cw_assoc ?_
            refine cw_reg_seq fun K hK => ?_
            simp only [go_sem, s2, s10, q0, q2, q1, qi, istr_of v5, istr_of v5_1, istr_of v7, istr_of v5_2]
            refine hK _ _ ?_
            clear hK K
            refine cw_seq_k fun K67 hK67 => ?_
            simp only [go_sem]
            refine ibr_intro (fun hc68 => ?_) (fun hc68 => ?_)
            · rw [if_t hc68] at hm3
              simp only [cw_skip, qblock_normal, qseq_normal]
              refine hK67 _ _ ?_
              refine cw_seq_k fun K69 hK69 => ?_
              have J70 : ∀ (row_9_1 : List Int) (v5_3 : AV) (t : Slots) (h : Heap), t 1 = .fs 1 (List.map eL_I open_) → t 2 = .fp [.fs 5 (List.map eComb h_.Combs), .fs 3 (List.map eTrain h_.Trains), .fs 3 (List.map eShift h_.Shifts), I h_.Until] 0 → t 5 = v5_3 → t 6 = I x_19 → t 7 = .rp i7 0 0 → t 8 = I x_28 → t 9 = .rs i9 0 (List.length row_9_1) → t 10 = I t_10 → t 18 = I (List.length h_.Combs : Int) → t 19 = I x_19 → t 27 = I h_.Until → t 28 = I x_28 → OwnS h v5_3 1 (List.map eP_halls_bound all_5) → h.ob i7 = some (4, [[.rs i7_1 0 (List.length b_7_0), .rs i7_2 0 (List.length ([0])), .v (.slice none 0 0), v7]]) → i7 < h.nx → h.ob i7_1 = some (1, List.map eI b_7_0) → i7_1 < h.nx → h.ob i7_2 = some (1, List.map eI ([0])) → i7_2 < h.nx → OwnS h v7 1 (List.map eL_I b_7_3) → h.ob i9 = some (1, List.map eI row_9_1) → i9 < h.nx → NotId v5_3 i7 → NotId v5_3 i7_1 → NotId v5_3 i7_2 → (∀ j, ¬NotId v5_3 j → NotId v7 j) → NotId v5_3 i9 → ¬i7 = i7_1 → ¬i7 = i7_2 → NotId v7 i7 → ¬i7 = i9 → ¬i7_1 = i7_2 → NotId v7 i7_1 → ¬i7_1 = i9 → NotId v7 i7_2 → ¬i7_2 = i9 → NotId v7 i9 → halls_bounds_j70 t_10 row_9_1 = some o → K69 t h := by
                try clear s1 s2 s5 s6 s7 s8 s9 s10 s18 s19 s27 s28 qf q7 q0 qg q2 qh q1 q8 qu qi q9 qa qb qn qs q4 q5 qc qk q6 qd qm qe ql qt
                intro row_9_1 v5_3 t h s1 s2 s5 s6 s7 s8 s9 s10 s18 s19 s27 s28 qf q7 q0 qg q2 qh q1 q8 qu qi q9 qa qb qn qs q4 q5 qc qk q6 qd qm qe ql qt hm3
                refine hK69 _ _ ?_
                unfold halls_bounds_j70 at hm3
                refine cw_reg_k fun K hK => ?_
                simp only [go_sem, s10, q0, q2, q1, qi, istr_of v5, istr_of v5_1, istr_of v7, istr_of v5_2, istr_of v5_3]
                refine hK _ _ ?_
                clear hK K
                simp only [qblock_normal, qseq_normal]
                obtain rfl := Option.some.inj hm3
                refine ⟨_, rfl, ?_⟩
                exact ⟨v5_3, i9, s1, s2, s5, s6, s7, s8, (by first | exact s9 | simp only [go_sem, s9, List.length_append, List.map_append]), (by first | (simp only [go_sem, s10, List.length_append, List.map_append]; done) | rfl), s18, s19, s27, s28, qf, q7, q0, qg, q2, qh, q1, q8, qu, qi, q9, qa, qb, qn, qs, q4, q5, qc, qk, q6, qd, qm, qe, ql, qt⟩
              simp only [cw_block]
              obtain ⟨y73, h_y73, hm3⟩ := bind_get hm3
              obtain ⟨x74, h_x74, hm3⟩ := bind_get hm3
              have h_x740 := get_nn h_x74
              have h_x741 := get_lt h_x74
              refine cw_reg_seq fun K hK => ?_
              simp only [go_sem, s2, s6, s8, s9, s10, qu, qi, q0, q2, q1, qs, qk, nsym qk, qm, nsym qm, ql, nsym ql, qt, ielem_get h_x74, irow_get h_x74, h_x740, h_x741, istr_of v5, istr_of v5_1, istr_of v7, istr_of v5_2]
              refine icall_fn (k_halls_brought h_ x_19 x_28 t_10 _ h_y73) ?_
              simp only [go_sem, s2, s6, s8, s9, s10, qu, qi, q0, q2, q1, qs, qk, nsym qk, qm, nsym qm, ql, nsym ql, qt, ielem_get h_x74, irow_get h_x74, h_x740, h_x741, istr_of v5, istr_of v5_1, istr_of v7, istr_of v5_2]
              refine hK _ _ ?_
              clear hK K
              obtain ⟨l76, h_l76, hm3⟩ := bind_get hm3
              refine cw_reg_seq fun K hK => ?_
              simp only [go_sem, s2, s6, q0, q2, q1, qi, istr_of v5, istr_of v5_1, istr_of v7, istr_of v5_2]
              refine islc_fs (f := eComb) (l := h_.Combs) (lo := none) (hi := some x_19) h_l76 ?_
              simp only [go_sem, s2, s6, q0, q2, q1, qi, istr_of v5, istr_of v5_1, istr_of v7, istr_of v5_2]
              refine hK _ _ ?_
              clear hK K
              simp only [cw_block]
              obtain ⟨b77, hl77, hm3⟩ := bind_get hm3
              refine cw_loopM hl77 (fun | (row_9_1, x_54), t, h => ∃ v5_3 : AV, t 1 = .fs 1 (List.map eL_I open_) ∧ t 2 = .fp [.fs 5 (List.map eComb h_.Combs), .fs 3 (List.map eTrain h_.Trains), .fs 3 (List.map eShift h_.Shifts), I h_.Until] 0 ∧ t 5 = v5_3 ∧ t 6 = I x_19 ∧ t 7 = .rp i7 0 0 ∧ t 8 = I x_28 ∧ t 9 = .rs i9 0 (List.length row_9_1) ∧ t 10 = I t_10 ∧ t 18 = I (List.length h_.Combs : Int) ∧ t 19 = I x_19 ∧ t 27 = I h_.Until ∧ t 28 = I x_28 ∧ t 52 = .fs 5 (List.map eComb l76) ∧ t 53 = I (List.length l76 : Int) ∧ t 54 = I x_54 ∧ OwnS h v5_3 1 (List.map eP_halls_bound all_5) ∧ h.ob i7 = some (4, [[.rs i7_1 0 (List.length b_7_0), .rs i7_2 0 (List.length ([0])), .v (.slice none 0 0), v7]]) ∧ i7 < h.nx ∧ h.ob i7_1 = some (1, List.map eI b_7_0) ∧ i7_1 < h.nx ∧ h.ob i7_2 = some (1, List.map eI ([0])) ∧ i7_2 < h.nx ∧ OwnS h v7 1 (List.map eL_I b_7_3) ∧ h.ob i9 = some (1, List.map eI row_9_1) ∧ i9 < h.nx ∧ NotId v5_3 i7 ∧ NotId v5_3 i7_1 ∧ NotId v5_3 i7_2 ∧ (∀ j, ¬NotId v5_3 j → NotId v7 j) ∧ NotId v5_3 i9 ∧ ¬i7 = i7_1 ∧ ¬i7 = i7_2 ∧ NotId v7 i7 ∧ ¬i7 = i9 ∧ ¬i7_1 = i7_2 ∧ NotId v7 i7_1 ∧ ¬i7_1 = i9 ∧ NotId v7 i7_2 ∧ ¬i7_2 = i9 ∧ NotId v7 i9) ?_ ?_
              · exact ⟨v5_2, s1, s2, s5, s6, s7, s8, (by first | exact s9 | simp only [go_sem, s9, List.length_append, List.map_append]), s10, s18, s19, s27, s28, (by first | (simp only [go_sem, List.length_append, List.map_append]; done) | rfl), (by first | (simp only [go_sem, List.length_append, List.map_append]; done) | rfl), (by first | (simp only [go_sem, List.length_append, List.map_append]; done) | rfl), (own_later qf (by intro j hj hl; first | rfl | simp only [go_sem, hl, qi, own_ne hj qs]) (by first | omega | exact Nat.le_refl _ | (simp only [go_sem, nxs] <;> omega))), (by simp only [go_sem, q7, q0, qi, qk, nsym qk, List.length_append, List.map_append]), (by simp only [go_sem, q0]), (by simp only [go_sem, qg, q2, qi, qm, nsym qm, List.length_append, List.map_append]), (by simp only [go_sem, q2]), (by simp only [go_sem, qh, q1, qi, ql, nsym ql, List.length_append, List.map_append]), (by simp only [go_sem, q1]), (own_later q8 (by intro j hj hl; first | rfl | simp only [go_sem, hl, qi, own_ne hj qt]) (by first | omega | exact Nat.le_refl _ | (simp only [go_sem, nxs] <;> omega))), (by simp only [go_sem, qu, qi, List.length_append, List.map_append]), (by simp only [go_sem, qi]), q9, qa, qb, qn, qs, q4, q5, qc, qk, q6, qd, qm, qe, ql, qt⟩
              · try clear s1 s2 s5 s6 s7 s8 s9 s10 s18 s19 s27 s28 qf q7 q0 qg q2 qh q1 q8 qu qi q9 qa qb qn qs q4 q5 qc qk q6 qd qm qe ql qt
                rintro ⟨row_9_1, x_54⟩ o t h ⟨v5_3, s1, s2, s5, s6, s7, s8, s9, s10, s18, s19, s27, s28, s52, s53, s54, qf, q7, q0, qg, q2, qh, q1, q8, qu, qi, q9, qa, qb, qn, qs, q4, q5, qc, qk, q6, qd, qm, qe, ql, qt⟩ hm4 hb77
                simp only [halls_bounds_L19] at hm4
                rw [x_halls_bounds_L19]
                refine cw_reg_seq fun K hK => ?_
                simp only [go_sem, s53, s54, q0, q2, q1, qi, istr_of v5, istr_of v5_1, istr_of v7, istr_of v5_2, istr_of v5_3]
                refine hK _ _ ?_
                clear hK K
                refine cw_seq_k fun K78 hK78 => ?_
                simp only [go_sem]
                refine ibr_intro (fun hc79 => ?_) (fun hc79 => ?_)
                · rw [if_t hc79] at hm4
                  simp only [cw_skip, qblock_normal, qseq_normal]
                  refine hK78 _ _ ?_
                  refine cw_seq_k fun K80 hK80 => ?_
                  have J81 : ∀ (row_9_2 : List Int) (v5_4 : AV) (t : Slots) (h : Heap), t 1 = .fs 1 (List.map eL_I open_) → t 2 = .fp [.fs 5 (List.map eComb h_.Combs), .fs 3 (List.map eTrain h_.Trains), .fs 3 (List.map eShift h_.Shifts), I h_.Until] 0 → t 5 = v5_4 → t 6 = I x_19 → t 7 = .rp i7 0 0 → t 8 = I x_28 → t 9 = .rs i9 0 (List.length row_9_2) → t 10 = I t_10 → t 18 = I (List.length h_.Combs : Int) → t 19 = I x_19 → t 27 = I h_.Until → t 28 = I x_28 → t 52 = .fs 5 (List.map eComb l76) → t 53 = I (List.length l76 : Int) → t 54 = I x_54 → OwnS h v5_4 1 (List.map eP_halls_bound all_5) → h.ob i7 = some (4, [[.rs i7_1 0 (List.length b_7_0), .rs i7_2 0 (List.length ([0])), .v (.slice none 0 0), v7]]) → i7 < h.nx → h.ob i7_1 = some (1, List.map eI b_7_0) → i7_1 < h.nx → h.ob i7_2 = some (1, List.map eI ([0])) → i7_2 < h.nx → OwnS h v7 1 (List.map eL_I b_7_3) → h.ob i9 = some (1, List.map eI row_9_2) → i9 < h.nx → NotId v5_4 i7 → NotId v5_4 i7_1 → NotId v5_4 i7_2 → (∀ j, ¬NotId v5_4 j → NotId v7 j) → NotId v5_4 i9 → ¬i7 = i7_1 → ¬i7 = i7_2 → NotId v7 i7 → ¬i7 = i9 → ¬i7_1 = i7_2 → NotId v7 i7_1 → ¬i7_1 = i9 → NotId v7 i7_2 → ¬i7_2 = i9 → NotId v7 i9 → halls_bounds_j81 x_54 row_9_2 = some o → K80 t h := by
                    try clear s1 s2 s5 s6 s7 s8 s9 s10 s18 s19 s27 s28 s52 s53 s54 qf q7 q0 qg q2 qh q1 q8 qu qi q9 qa qb qn qs q4 q5 qc qk q6 qd qm qe ql qt
                    intro row_9_2 v5_4 t h s1 s2 s5 s6 s7 s8 s9 s10 s18 s19 s27 s28 s52 s53 s54 qf q7 q0 qg q2 qh q1 q8 qu qi q9 qa qb qn qs q4 q5 qc qk q6 qd qm qe ql qt hm4
                    refine hK80 _ _ ?_
                    unfold halls_bounds_j81 at hm4
                    refine cw_reg_k fun K hK => ?_
                    simp only [go_sem, s54, q0, q2, q1, qi, istr_of v5, istr_of v5_1, istr_of v7, istr_of v5_2, istr_of v5_3, istr_of v5_4]
                    refine hK _ _ ?_
                    clear hK K
                    simp only [qblock_normal, qseq_normal]
                    obtain rfl := Option.some.inj hm4
                    refine ⟨_, rfl, ?_⟩
                    exact ⟨v5_4, s1, s2, s5, s6, s7, s8, (by first | exact s9 | simp only [go_sem, s9, List.length_append, List.map_append]), s10, s18, s19, s27, s28, s52, s53, (by first | (simp only [go_sem, s54, List.length_append, List.map_append]; done) | rfl), qf, q7, q0, qg, q2, qh, q1, q8, qu, qi, q9, qa, qb, qn, qs, q4, q5, qc, qk, q6, qd, qm, qe, ql, qt⟩
                  simp only [cw_block]
                  obtain ⟨x83, h_x83, hm4⟩ := bind_get hm4
                  have h_x830 := get_nn h_x83
                  have h_x831 := get_lt h_x83
                  refine cw_reg_seq fun K hK => ?_
                  simp only [go_sem, s52, s54, q0, q2, q1, qi, ielem_get h_x83, irow_get h_x83, h_x830, h_x831, istr_of v5, istr_of v5_1, istr_of v7, istr_of v5_2, istr_of v5_3]
                  refine hK _ _ ?_
                  clear hK K
                  refine cw_reg_seq fun K hK => ?_
                  simp only [go_sem, s6, q0, q2, q1, qi, istr_of v5, istr_of v5_1, istr_of v7, istr_of v5_2, istr_of v5_3]
                  refine hK _ _ ?_
                  clear hK K
                  simp only [go_sem]
                  refine ibr_intro (fun hc84 => ?_) (fun hc84 => ?_)
                  · rw [if_t hc84] at hm4
                    obtain ⟨x89, h_x89, hm4⟩ := bind_get hm4
                    have h_x890 := get_nn h_x89
                    have h_x891 := get_lt h_x89
                    obtain ⟨x90, h_x90, hm4⟩ := bind_get hm4
                    have h_x900 := get_nn h_x90
                    have h_x901 := get_lt h_x90
                    obtain ⟨iq91, rfl, q12, qz⟩ := own_get qf h_x90
                    obtain ⟨y92, h_y92, hm4⟩ := bind_get hm4
                    refine cw_reg_k fun K hK => ?_
                    simp only [go_sem, s5, s8, s9, s10, q12, qz, qu, qi, q0, q2, q1, q9, qa, qb, qs, qk, nsym qk, qm, nsym qm, ql, nsym ql, qt, ielem_get h_x89, irow_get h_x89, h_x890, h_x891, ielem_get h_x90, irow_get h_x90, h_x900, h_x901, istr_of v5, istr_of v5_1, istr_of v7, istr_of v5_2]
                    refine icall_fn (k___halls_bound__passes x90 (wr (x_28 - x83.Walk.High)) (wr (t_10 - x83.Walk.Low)) _ h_y92) ?_
                    simp only [go_sem, s5, s8, s9, s10, q12, qz, qu, qi, q0, q2, q1, q9, qa, qb, qs, qk, nsym qk, qm, nsym qm, ql, nsym ql, qt, ielem_get h_x89, irow_get h_x89, h_x890, h_x891, ielem_get h_x90, irow_get h_x90, h_x900, h_x901, istr_of v5, istr_of v5_1, istr_of v7, istr_of v5_2]
                    refine hK _ _ ?_
                    clear hK K
                    simp only [qblock_normal, qseq_normal]
                    exact J81 (List.set row_9_1 (Int.toNat t_10) (wr (x89 + y92))) (.rs iq91 0 (List.length all_5)) _ _ s1 s2 (by first | (simp only [go_sem, s5, List.length_append, List.map_append]; done) | rfl) s6 s7 s8 (by first | exact s9 | simp only [go_sem, s9, List.length_append, List.map_append]) s10 s18 s19 s27 s28 s52 s53 s54 (own_rs (by simp only [go_sem, qi, qs, notid_ne qs, nsym (notid_ne qs), q12, qz, List.length_append, List.map_append]) (by first | rfl | simp only [go_sem, List.length_append, List.map_append]) (by simp only [go_sem, qz])) (by simp only [go_sem, q7, q0, qi, qk, nsym qk, List.length_append, List.map_append]) (by simp only [go_sem, q0]) (by simp only [go_sem, qg, q2, qi, qm, nsym qm, List.length_append, List.map_append]) (by simp only [go_sem, q2]) (by simp only [go_sem, qh, q1, qi, ql, nsym ql, List.length_append, List.map_append]) (by simp only [go_sem, q1]) (own_later q8 (by intro j hj hl; first | rfl | simp only [go_sem, hl, qi, own_ne hj qt]) (by first | omega | exact Nat.le_refl _ | (simp only [go_sem, nxs] <;> omega))) (by simp only [go_sem, qu, qi, List.length_append, List.map_append]) (by simp only [go_sem, qi]) q9 qa qb qn qs q4 q5 qc qk q6 qd qm qe ql qt hm4
                  · rw [if_f hc84] at hm4
                    simp only [cw_skip, qblock_normal, qseq_normal]
                    exact J81 row_9_1 v5_3 _ _ s1 s2 s5 s6 s7 s8 (by first | exact s9 | simp only [go_sem, s9, List.length_append, List.map_append]) s10 s18 s19 s27 s28 s52 s53 s54 (own_later qf (by intro j hj hl; first | rfl | simp only [go_sem, hl]) (by first | omega | exact Nat.le_refl _ | (simp only [go_sem, nxs] <;> omega))) (by simp only [go_sem, q7, q0, List.length_append, List.map_append]) (by simp only [go_sem, q0]) (by simp only [go_sem, qg, q2, List.length_append, List.map_append]) (by simp only [go_sem, q2]) (by simp only [go_sem, qh, q1, List.length_append, List.map_append]) (by simp only [go_sem, q1]) (own_later q8 (by intro j hj hl; first | rfl | simp only [go_sem, hl]) (by first | omega | exact Nat.le_refl _ | (simp only [go_sem, nxs] <;> omega))) (by simp only [go_sem, qu, qi, List.length_append, List.map_append]) (by simp only [go_sem, qi]) q9 qa qb qn qs q4 q5 qc qk q6 qd qm qe ql qt hm4
                · rw [if_f hc79] at hm4
                  simp only [cw_exit, qseq_exit, qblock_same, qblock_ne, qblock_normal, qseq_normal, Nat.reduceEqDiff, not_false_eq_true]
                  obtain rfl := Option.some.inj hm4
                  obtain rfl := hb77 _ rfl
                  try dsimp only at hm3
                  exact J70 row_9_1 v5_3 _ _ s1 s2 s5 s6 s7 s8 (by first | exact s9 | simp only [go_sem, s9, List.length_append, List.map_append]) s10 s18 s19 s27 s28 qf q7 q0 qg q2 qh q1 q8 qu qi q9 qa qb qn qs q4 q5 qc qk q6 qd qm qe ql qt hm3
            · rw [if_f hc68] at hm3
              simp only [cw_exit, qseq_exit, qblock_same, qblock_ne, qblock_normal, qseq_normal, Nat.reduceEqDiff, not_false_eq_true]
              obtain rfl := Option.some.inj hm3
              obtain rfl := hb66 _ rfl
              try dsimp only at hm2
              exact J55 row_9 v5_2 i9 _ _ s1 s2 s5 s6 s7 s8 (by first | exact s9 | simp only [go_sem, s9, List.length_append, List.map_append]) s18 s19 s27 s28 qf q7 q0 qg q2 qh q1 q8 qu qi q9 qa qb qn qs q4 q5 qc qk q6 qd qm qe ql qt hm2
        · rw [if_f hc49] at hm2
          simp only [cw_exit, qseq_exit, qblock_same, qblock_ne, qblock_normal, qseq_normal, Nat.reduceEqDiff, not_false_eq_true]
          obtain rfl := Option.some.inj hm2
          obtain rfl := hb47 _ rfl
          try dsimp only at hm1
          exact J9 b_7_0 b_7_3 v5_1 i7 i7_1 i7_2 v7 _ _ s1 s2 s5 s6 s7 s18 s19 qf q7 q0 qg q2 qh q1 q8 q9 qa qb qn q4 q5 qc q6 qd qe hm1
    · rw [if_f hc5] at hm1
      simp only [cw_exit, qseq_exit, qblock_same, qblock_ne, qblock_normal, qseq_normal, Nat.reduceEqDiff, not_false_eq_true]
      obtain rfl := Option.some.inj hm1
      obtain rfl := hb3 _ rfl
      try dsimp only at hm0
      exact J2 all_5 v5 _ _ s5 qf hm0

end Go.Nw.HM

namespace Go.Nw.HM
open Go.Nw.Halls
set_option linter.unusedSimpArgs false
set_option linter.unusedVariables false
set_option maxHeartbeats 4000000
variable {O : Orac}

theorem k_halls_brought (hf : Has O "newel/halls.brought" x_halls_brought) : C_halls_brought O := by
  intro h_ comb from_ to_ r hm0
  unfold halls_brought at hm0
  refine fn_cw hf rfl (fz_cons (.agg _ (fz_cons (frz_fs fun a _ => fz_eComb a) (fz_cons (frz_fs fun a _ => fz_eTrain a) (fz_cons (frz_fs fun a _ => fz_eShift a) (fz_cons (frz_v _) fz_nil))))) (fz_cons (frz_v _) (fz_cons (frz_v _) (fz_cons (frz_v _) fz_nil)))) (frz_v _) ?_
  refine cw_start (fun t h => t 0 = .agg [.fs 5 (List.map eComb h_.Combs), .fs 3 (List.map eTrain h_.Trains), .fs 3 (List.map eShift h_.Shifts), I h_.Until] ∧ t 1 = I comb ∧ t 2 = I from_ ∧ t 3 = I to_) ⟨rfl, rfl, rfl, rfl⟩ fun t h ⟨s0, s1, s2, s3⟩ => ?_
  simp only [x_halls_brought]
  refine cw_reg_seq fun K hK => ?_
  simp only [go_sem, s0]
  refine hK _ _ ?_
  clear hK K
  refine cw_assoc ?_
  refine cw_reg_seq fun K hK => ?_
  simp only [go_sem]
  refine hK _ _ ?_
  clear hK K
  refine cw_seq_k fun K1 hK1 => ?_
  have J2 : ∀ (sum_8 : Int) (t : Slots) (h : Heap), t 8 = I sum_8 → halls_brought_j2 sum_8 = some r → K1 t h := by
    intro sum_8 t h s8 hm0
    refine hK1 _ _ ?_
    unfold halls_brought_j2 at hm0
    refine cw_reg_seq fun K hK => ?_
    simp only [go_sem, s8]
    refine hK _ _ ?_
    clear hK K
    simp only [cw_ret, qseq_ret, qblock_ret, retQ_ret]
    obtain rfl := Option.some.inj hm0
    exact done_t (by simp only [go_sem, s8, List.length_append, List.map_append]) (frz_v _)
  simp only [cw_block]
  obtain ⟨b3, hl3, hm0⟩ := bind_get hm0
  refine cw_loopM hl3 (fun | (sum_8, x_16), t, h => t 1 = I comb ∧ t 2 = I from_ ∧ t 3 = I to_ ∧ t 8 = I sum_8 ∧ t 14 = .fs 3 (List.map eTrain h_.Trains) ∧ t 15 = I (List.length h_.Trains : Int) ∧ t 16 = I x_16) ?_ ?_
  · exact ⟨s1, s2, s3, (by first | (simp only [go_sem, List.length_append, List.map_append]; done) | rfl), (by first | (simp only [go_sem, List.length_append, List.map_append]; done) | rfl), (by first | (simp only [go_sem, List.length_append, List.map_append]; done) | rfl), (by first | (simp only [go_sem, List.length_append, List.map_append]; done) | rfl)⟩
  · rintro ⟨sum_8, x_16⟩ o t h ⟨s1, s2, s3, s8, s14, s15, s16⟩ hm1 hb3
    simp only [halls_brought_L13] at hm1
    rw [x_halls_brought_L13]
    refine cw_reg_seq fun K hK => ?_
    simp only [go_sem, s15, s16]
    refine hK _ _ ?_
    clear hK K
    refine cw_seq_k fun K4 hK4 => ?_
    simp only [go_sem]
    refine ibr_intro (fun hc5 => ?_) (fun hc5 => ?_)
    · rw [if_t hc5] at hm1
      simp only [cw_skip, qblock_normal, qseq_normal]
      refine hK4 _ _ ?_
      refine cw_seq_k fun K6 hK6 => ?_
      have J7 : ∀ (sum_8_1 : Int) (t : Slots) (h : Heap), t 1 = I comb → t 2 = I from_ → t 3 = I to_ → t 8 = I sum_8_1 → t 14 = .fs 3 (List.map eTrain h_.Trains) → t 15 = I (List.length h_.Trains : Int) → t 16 = I x_16 → halls_brought_j7 x_16 sum_8_1 = some o → K6 t h := by
        intro sum_8_1 t h s1 s2 s3 s8 s14 s15 s16 hm1
        refine hK6 _ _ ?_
        unfold halls_brought_j7 at hm1
        refine cw_reg_k fun K hK => ?_
        simp only [go_sem, s16]
        refine hK _ _ ?_
        clear hK K
        simp only [qblock_normal, qseq_normal]
        obtain rfl := Option.some.inj hm1
        refine ⟨_, rfl, ?_⟩
        exact ⟨s1, s2, s3, s8, s14, s15, (by first | (simp only [go_sem, s16, List.length_append, List.map_append]; done) | rfl)⟩
      simp only [cw_block]
      obtain ⟨x9, h_x9, hm1⟩ := bind_get hm1
      have h_x90 := get_nn h_x9
      have h_x91 := get_lt h_x9
      refine cw_reg_seq fun K hK => ?_
      simp only [go_sem, s14, s16, ielem_get h_x9, irow_get h_x9, h_x90, h_x91]
      refine hK _ _ ?_
      clear hK K
      refine cw_assoc ?_
      refine cw_reg_postK (fun t h => ∃ i10 : Nat, t 1 = I comb ∧ t 2 = I from_ ∧ t 3 = I to_ ∧ t 8 = I sum_8 ∧ t 10 = .rp i10 0 0 ∧ t 14 = .fs 3 (List.map eTrain h_.Trains) ∧ t 15 = I (List.length h_.Trains : Int) ∧ t 16 = I x_16 ∧ t 31 = B ((decide (x9.At.High < from_)) || (decide (to_ < x9.At.Low))) ∧ h.ob i10 = some (3, [[I x9.At.Low, I x9.At.High, .fs 3 (List.map eCrowd x9.Crowds)]]) ∧ i10 < h.nx) (fun K hK => ?_) ?_
      · simp only [go_sem, s2, s3]
        refine ibr_intro (fun hg10 => ?_) (fun hg10 => ?_)
        · simp only [go_sem, s2, s3, hg10]
          exact hK _ _ ⟨h.nx, s1, s2, s3, s8, (by first | (simp only [go_sem, hg10, List.length_append, List.map_append]; done) | rfl), s14, s15, s16, (by first | (simp only [go_sem, hg10, List.length_append, List.map_append]; done) | rfl), (by simp only [go_sem, hg10, List.length_append, List.map_append]), (by simp only [go_sem])⟩
        · simp only [go_sem, s2, s3, hg10]
          exact hK _ _ ⟨h.nx, s1, s2, s3, s8, (by first | (simp only [go_sem, hg10, List.length_append, List.map_append]; done) | rfl), s14, s15, s16, (by first | (simp only [go_sem, hg10, List.length_append, List.map_append]; done) | rfl), (by simp only [go_sem, hg10, List.length_append, List.map_append]), (by simp only [go_sem])⟩
      · rintro t h ⟨i10, s1, s2, s3, s8, s10, s14, s15, s16, s31, q18, q19⟩
        refine cw_seq_k fun K11 hK11 => ?_
        simp only [go_sem, s31]
        refine ibr_intro (fun hc12 => ?_) (fun hc12 => ?_)
        · rw [if_t hc12] at hm1
          simp only [cw_exit, qseq_exit, qblock_same, qblock_ne, qblock_normal, qseq_normal, Nat.reduceEqDiff, not_false_eq_true]
          exact J7 sum_8 _ _ s1 s2 s3 s8 s14 s15 s16 hm1
        · rw [if_f hc12] at hm1
          simp only [cw_skip, qblock_normal, qseq_normal]
          refine hK11 _ _ ?_
          refine cw_reg_seq fun K hK => ?_
          simp only [go_sem, s10, q18, q19]
          refine hK _ _ ?_
          clear hK K
          simp only [cw_block]
          obtain ⟨b13, hl13, hm1⟩ := bind_get hm1
          refine cw_loopM hl13 (fun | (sum_8_1, x_35), t, h => t 1 = I comb ∧ t 2 = I from_ ∧ t 3 = I to_ ∧ t 8 = I sum_8_1 ∧ t 14 = .fs 3 (List.map eTrain h_.Trains) ∧ t 15 = I (List.length h_.Trains : Int) ∧ t 16 = I x_16 ∧ t 33 = .fs 3 (List.map eCrowd x9.Crowds) ∧ t 34 = I (List.length x9.Crowds : Int) ∧ t 35 = I x_35) ?_ ?_
          · exact ⟨s1, s2, s3, s8, s14, s15, s16, (by first | (simp only [go_sem, List.length_append, List.map_append]; done) | rfl), (by first | (simp only [go_sem, List.length_append, List.map_append]; done) | rfl), (by first | (simp only [go_sem, List.length_append, List.map_append]; done) | rfl)⟩
          · try clear s1 s2 s3 s8 s10 s14 s15 s16 s31 q18 q19
            rintro ⟨sum_8_1, x_35⟩ o t h ⟨s1, s2, s3, s8, s14, s15, s16, s33, s34, s35⟩ hm2 hb13
            simp only [halls_brought_L11] at hm2
            rw [x_halls_brought_L11]
            refine cw_reg_seq fun K hK => ?_
            simp only [go_sem, s34, s35]
            refine hK _ _ ?_
            clear hK K
            refine cw_seq_k fun K14 hK14 => ?_
            simp only [go_sem]
            refine ibr_intro (fun hc15 => ?_) (fun hc15 => ?_)
            · rw [if_t hc15] at hm2
              simp only [cw_skip, qblock_normal, qseq_normal]
              refine hK14 _ _ ?_
              refine cw_seq_k fun K16 hK16 => ?_
              have J17 : ∀ (sum_8_2 : Int) (t : Slots) (h : Heap), t 1 = I comb → t 2 = I from_ → t 3 = I to_ → t 8 = I sum_8_2 → t 14 = .fs 3 (List.map eTrain h_.Trains) → t 15 = I (List.length h_.Trains : Int) → t 16 = I x_16 → t 33 = .fs 3 (List.map eCrowd x9.Crowds) → t 34 = I (List.length x9.Crowds : Int) → t 35 = I x_35 → halls_brought_j17 x_35 sum_8_2 = some o → K16 t h := by
                try clear s1 s2 s3 s8 s14 s15 s16 s33 s34 s35
                intro sum_8_2 t h s1 s2 s3 s8 s14 s15 s16 s33 s34 s35 hm2
                refine hK16 _ _ ?_
                unfold halls_brought_j17 at hm2
                refine cw_reg_k fun K hK => ?_
                simp only [go_sem, s35]
                refine hK _ _ ?_
                clear hK K
                simp only [qblock_normal, qseq_normal]
                obtain rfl := Option.some.inj hm2
                refine ⟨_, rfl, ?_⟩
                exact ⟨s1, s2, s3, s8, s14, s15, s16, s33, s34, (by first | (simp only [go_sem, s35, List.length_append, List.map_append]; done) | rfl)⟩
              simp only [cw_block]
              obtain ⟨x19, h_x19, hm2⟩ := bind_get hm2
              have h_x190 := get_nn h_x19
              have h_x191 := get_lt h_x19
              refine cw_reg_seq fun K hK => ?_
              simp only [go_sem, s33, s35, ielem_get h_x19, irow_get h_x19, h_x190, h_x191]
              refine hK _ _ ?_
              clear hK K
              refine cw_reg_seq fun K hK => ?_
              simp only [go_sem, s1]
              refine hK _ _ ?_
              clear hK K
              simp only [go_sem]
              refine ibr_intro (fun hc20 => ?_) (fun hc20 => ?_)
              · rw [if_t hc20] at hm2
                refine cw_reg_k fun K hK => ?_
                simp only [go_sem, s8]
                refine hK _ _ ?_
                clear hK K
                simp only [qblock_normal, qseq_normal]
                exact J17 (wr (sum_8_1 + x19.People.High)) _ _ s1 s2 s3 (by first | (simp only [go_sem, s8, List.length_append, List.map_append]; done) | rfl) s14 s15 s16 s33 s34 s35 hm2
              · rw [if_f hc20] at hm2
                simp only [cw_skip, qblock_normal, qseq_normal]
                exact J17 sum_8_1 _ _ s1 s2 s3 s8 s14 s15 s16 s33 s34 s35 hm2
            · rw [if_f hc15] at hm2
              simp only [cw_exit, qseq_exit, qblock_same, qblock_ne, qblock_normal, qseq_normal, Nat.reduceEqDiff, not_false_eq_true]
              obtain rfl := Option.some.inj hm2
              obtain rfl := hb13 _ rfl
              try dsimp only at hm1
              exact J7 sum_8_1 _ _ s1 s2 s3 s8 s14 s15 s16 hm1
    · rw [if_f hc5] at hm1
      simp only [cw_exit, qseq_exit, qblock_same, qblock_ne, qblock_normal, qseq_normal, Nat.reduceEqDiff, not_false_eq_true]
      obtain rfl := Option.some.inj hm1
      obtain rfl := hb3 _ rfl
      try dsimp only at hm0
      exact J2 sum_8 _ _ s8 hm0

end Go.Nw.HM

namespace Go.Nw.HM
open Go.Nw.Halls
set_option linter.unusedSimpArgs false
set_option linter.unusedVariables false
set_option maxHeartbeats 4000000
variable {O : Orac}

theorem k_halls_check (hf : Has O "newel/halls.check" x_halls_check) (k_halls_Check : C_halls_Check O) (k_slices_ContainsFunc___int_int_ : C_slices_ContainsFunc___int_int_ O) (k_halls_checkD1 : C_halls_checkD1 O) : C_halls_check O := by
  intro h_ comb ticks r hm0
  unfold halls_check at hm0
  refine fn_cw hf rfl (fz_cons (.agg _ (fz_cons (frz_fs fun a _ => fz_eComb a) (fz_cons (frz_fs fun a _ => fz_eTrain a) (fz_cons (frz_fs fun a _ => fz_eShift a) (fz_cons (frz_v _) fz_nil))))) (fz_cons (frz_v _) (fz_cons (frz_fs fun a _ => fz_eI a) fz_nil))) (frz_v _) ?_
  refine cw_start (fun t h => t 0 = .agg [.fs 5 (List.map eComb h_.Combs), .fs 3 (List.map eTrain h_.Trains), .fs 3 (List.map eShift h_.Shifts), I h_.Until] ∧ t 1 = I comb ∧ t 2 = .fs 1 (List.map eI ticks)) ⟨rfl, rfl, rfl⟩ fun t h ⟨s0, s1, s2⟩ => ?_
  simp only [x_halls_check]
  refine cw_reg_seq fun K hK => ?_
  simp only [go_sem, s0]
  refine hK _ _ ?_
  clear hK K
  refine cw_assoc ?_
  obtain ⟨y2, h_y2, hm0⟩ := bind_get hm0
  refine cw_reg_seq fun K hK => ?_
  simp only [go_sem]
  refine icall_fn (k_halls_Check h_ _ h_y2) ?_
  simp only [go_sem]
  refine hK _ _ ?_
  clear hK K
  refine cw_assoc ?_
  refine cw_reg_seq fun K hK => ?_
  simp only [go_sem]
  refine hK _ _ ?_
  clear hK K
  refine cw_seq_k fun K3 hK3 => ?_
  simp only [go_sem]
  refine ibr_intro (fun hc4 => ?_) (fun hc4 => ?_)
  · rw [if_t hc4] at hm0
    refine cw_reg_seq fun K hK => ?_
    simp only [go_sem]
    refine hK _ _ ?_
    clear hK K
    simp only [cw_ret, qseq_ret, qblock_ret, retQ_ret]
    obtain rfl := Option.some.inj hm0
    exact done_t (by simp only [go_sem, List.length_append, List.map_append]) (frz_v _)
  · rw [if_f hc4] at hm0
    simp only [cw_skip, qblock_normal, qseq_normal]
    refine hK3 _ _ ?_
    refine cw_assoc ?_
    obtain ⟨c10, h_c10, hm0⟩ := bind_get hm0
    refine cw_reg_postK (fun t h => t 26 = B c10) (fun K hK => ?_) ?_
    · simp only [go_sem, s1, s2]
      refine ibr_intro (fun hg11 => ?_) (fun hg11 => ?_)
      · simp only [hg11, Bool.not_true, Bool.not_false, eq_self, if_true, if_false, Bool.true_or, Bool.or_true, Bool.false_or, Bool.or_false, Bool.true_and, Bool.and_true, Bool.false_and, Bool.and_false, Bool.false_eq_true] at h_c10
        obtain rfl := Option.some.inj h_c10
        simp only [go_sem, s1, s2, hg11]
        exact hK _ _ (by first | (simp only [go_sem, hg11, List.length_append, List.map_append]; done) | rfl)
      · simp only [go_sem, s1, s2, hg11]
        refine ibr_intro (fun hg12 => ?_) (fun hg12 => ?_)
        · simp only [hg11, hg12, Bool.not_true, Bool.not_false, eq_self, if_true, if_false, Bool.true_or, Bool.or_true, Bool.false_or, Bool.or_false, Bool.true_and, Bool.and_true, Bool.false_and, Bool.and_false, Bool.false_eq_true] at h_c10
          obtain rfl := Option.some.inj h_c10
          simp only [go_sem, s1, s2, hg11, hg12]
          exact hK _ _ (by first | (simp only [go_sem, hg11, hg12, List.length_append, List.map_append]; done) | rfl)
        · simp only [hg11, hg12, Bool.not_true, Bool.not_false, eq_self, if_true, if_false, Bool.true_or, Bool.or_true, Bool.false_or, Bool.or_false, Bool.true_and, Bool.and_true, Bool.false_and, Bool.and_false, Bool.false_eq_true] at h_c10
          obtain ⟨y9, h_y9, h_c10⟩ := bind_get h_c10
          obtain rfl := Option.some.inj h_c10
          simp only [go_sem, s1, s2, hg11, hg12]
          refine icall_fn (k_slices_ContainsFunc___int_int_ ticks "newel/halls.check$1" [] [.fp [.fs 5 (List.map eComb h_.Combs), .fs 3 (List.map eTrain h_.Trains), .fs 3 (List.map eShift h_.Shifts), I h_.Until] 0] (fun z8 => some (halls_checkD1 z8 h_)) (.fn _ _ _ fz_nil (fz_cons (.fp _ _ (fz_cons (frz_fs fun a _ => fz_eComb a) (fz_cons (frz_fs fun a _ => fz_eTrain a) (fz_cons (frz_fs fun a _ => fz_eShift a) (fz_cons (frz_v _) fz_nil))))) fz_nil)) (fun z0 y hz => by cases hz; exact k_halls_checkD1 z0 h_) _ h_y9) ?_
          simp only [go_sem, s1, s2, hg11, hg12]
          exact hK _ _ (by first | (simp only [go_sem, hg11, hg12, List.length_append, List.map_append]; done) | rfl)
    · rintro t h s26
      refine cw_seq_k fun K13 hK13 => ?_
      simp only [go_sem, s26]
      refine ibr_intro (fun hc14 => ?_) (fun hc14 => ?_)
      · rw [if_t hc14] at hm0
        refine cw_reg_seq fun K hK => ?_
        simp only [go_sem]
        refine hK _ _ ?_
        clear hK K
        simp only [cw_ret, qseq_ret, qblock_ret, retQ_ret]
        obtain rfl := Option.some.inj hm0
        exact done_t (by simp only [go_sem, List.length_append, List.map_append]) (frz_v _)
      · rw [if_f hc14] at hm0
        simp only [cw_skip, qblock_normal, qseq_normal]
        refine hK13 _ _ ?_
        refine cw_reg_seq fun K hK => ?_
        simp only [go_sem]
        refine hK _ _ ?_
        clear hK K
        simp only [cw_ret, qseq_ret, qblock_ret, retQ_ret]
        obtain rfl := Option.some.inj hm0
        exact done_t (by simp only [go_sem, List.length_append, List.map_append]) (frz_v _)

end Go.Nw.HM

namespace Go.Nw.HM
open Go.Nw.Halls
set_option linter.unusedSimpArgs false
set_option linter.unusedVariables false
set_option maxHeartbeats 4000000
variable {O : Orac}

theorem k_halls_checkD1 (hf : Has O "newel/halls.check$1" x_halls_checkD1) : C_halls_checkD1 O := by
  intro t_ c0
  generalize hm0 : halls_checkD1 t_ c0 = r
  unfold halls_checkD1 at hm0
  refine fn_cw hf rfl (fz_cons (frz_v _) (fz_cons (.fp _ _ (fz_cons (frz_fs fun a _ => fz_eComb a) (fz_cons (frz_fs fun a _ => fz_eTrain a) (fz_cons (frz_fs fun a _ => fz_eShift a) (fz_cons (frz_v _) fz_nil))))) fz_nil)) (frz_v _) ?_
  refine cw_start (fun t h => t 0 = I t_ ∧ t 1 = .fp [.fs 5 (List.map eComb c0.Combs), .fs 3 (List.map eTrain c0.Trains), .fs 3 (List.map eShift c0.Shifts), I c0.Until] 0) ⟨rfl, rfl⟩ fun t h ⟨s0, s1⟩ => ?_
  simp only [x_halls_checkD1]
  refine cw_reg_seq fun K hK => ?_
  simp only [go_sem]
  refine hK _ _ ?_
  clear hK K
  refine cw_reg_postK (fun t h => t 3 = B ((decide (t_ < 0)) || (decide (c0.Until ≤ t_)))) (fun K hK => ?_) ?_
  · simp only [go_sem, s0, s1]
    refine ibr_intro (fun hg1 => ?_) (fun hg1 => ?_)
    · simp only [go_sem, s0, s1, hg1]
      exact hK _ _ (by first | (simp only [go_sem, hg1, List.length_append, List.map_append]; done) | rfl)
    · simp only [go_sem, s0, s1, hg1]
      exact hK _ _ (by first | (simp only [go_sem, hg1, List.length_append, List.map_append]; done) | rfl)
  · rintro t h s3
    simp only [cw_ret, qseq_ret, qblock_ret, retQ_ret]
    obtain rfl := hm0
    exact done_t (by simp only [go_sem, s3, List.length_append, List.map_append]) (frz_v _)

end Go.Nw.HM

namespace Go.Nw.HM
open Go.Nw.Halls
set_option linter.unusedSimpArgs false
set_option linter.unusedVariables false
set_option maxHeartbeats 4000000
variable {O : Orac}

theorem k_halls_in (hf : Has O "newel/halls.in" x_halls_in) : C_halls_in O := by
  intro n s
  generalize hm0 : halls_in n s = r
  unfold halls_in at hm0
  refine fn_cw hf rfl (fz_cons (frz_v _) (fz_cons (.agg _ (fz_cons (frz_v _) (fz_cons (frz_v _) fz_nil))) fz_nil)) (frz_v _) ?_
  refine cw_start (fun t h => t 0 = I n ∧ t 1 = .agg [I s.Low, I s.High]) ⟨rfl, rfl⟩ fun t h ⟨s0, s1⟩ => ?_
  simp only [x_halls_in]
  refine cw_reg_seq fun K hK => ?_
  simp only [go_sem, s1]
  refine hK _ _ ?_
  clear hK K
  refine cw_reg_postK (fun t h => t 4 = B ((decide (s.Low ≤ n)) && (decide (n ≤ s.High)))) (fun K hK => ?_) ?_
  · simp only [go_sem, s0]
    refine ibr_intro (fun hg1 => ?_) (fun hg1 => ?_)
    · simp only [go_sem, s0, hg1]
      exact hK _ _ (by first | (simp only [go_sem, hg1, List.length_append, List.map_append]; done) | rfl)
    · simp only [go_sem, s0, hg1]
      exact hK _ _ (by first | (simp only [go_sem, hg1, List.length_append, List.map_append]; done) | rfl)
  · rintro t h s4
    simp only [cw_ret, qseq_ret, qblock_ret, retQ_ret]
    obtain rfl := hm0
    exact done_t (by simp only [go_sem, s4, List.length_append, List.map_append]) (frz_v _)

end Go.Nw.HM

namespace Go.Nw.HM
open Go.Nw.Halls
set_option linter.unusedSimpArgs false
set_option linter.unusedVariables false
set_option maxHeartbeats 4000000
variable {O : Orac}

theorem k_halls_isComb (hf : Has O "newel/halls.isComb" x_halls_isComb) (k_halls_in : C_halls_in O) (k_halls_span : C_halls_span O) : C_halls_isComb O := by
  intro h_ i r hm0
  unfold halls_isComb at hm0
  refine fn_cw hf rfl (fz_cons (.agg _ (fz_cons (frz_fs fun a _ => fz_eComb a) (fz_cons (frz_fs fun a _ => fz_eTrain a) (fz_cons (frz_fs fun a _ => fz_eShift a) (fz_cons (frz_v _) fz_nil))))) (fz_cons (frz_v _) fz_nil)) (frz_v _) ?_
  refine cw_start (fun t h => t 0 = .agg [.fs 5 (List.map eComb h_.Combs), .fs 3 (List.map eTrain h_.Trains), .fs 3 (List.map eShift h_.Shifts), I h_.Until] ∧ t 1 = I i) ⟨rfl, rfl⟩ fun t h ⟨s0, s1⟩ => ?_
  simp only [x_halls_isComb]
  refine cw_reg_seq fun K hK => ?_
  simp only [go_sem, s0]
  refine hK _ _ ?_
  clear hK K
  obtain ⟨x2, h_x2, hm0⟩ := bind_get hm0
  have h_x20 := get_nn h_x2
  have h_x21 := get_lt h_x2
  refine cw_reg_seq fun K hK => ?_
  simp only [go_sem, s1, ielem_get h_x2, irow_get h_x2, h_x20, h_x21]
  refine hK _ _ ?_
  clear hK K
  refine cw_reg_postK (fun t h => t 4 = B ((((halls_in x2.Rate (Span.mk 0 1000)) && (halls_in x2.Limit (Span.mk 0 100000))) && ((decide (x2.Next = (-1))) || ((decide (i < x2.Next)) && (decide (x2.Next < (List.length h_.Combs : Int)))))) && (halls_span x2.Walk 1 20))) (fun K hK => ?_) ?_
  · simp only [go_sem, s1]
    refine icall_fn (k_halls_in x2.Rate (Span.mk 0 1000)) ?_
    simp only [go_sem, s1]
    refine ibr_intro (fun hg3 => ?_) (fun hg3 => ?_)
    · simp only [go_sem, s1, hg3]
      refine icall_fn (k_halls_in x2.Limit (Span.mk 0 100000)) ?_
      simp only [go_sem, s1, hg3]
      refine ibr_intro (fun hg4 => ?_) (fun hg4 => ?_)
      · simp only [go_sem, s1, hg3, hg4]
        refine ibr_intro (fun hg5 => ?_) (fun hg5 => ?_)
        · simp only [go_sem, s1, hg3, hg4, hg5]
          refine icall_fn (k_halls_span x2.Walk 1 20) ?_
          simp only [go_sem, s1, hg3, hg4, hg5]
          exact hK _ _ (by first | (simp only [go_sem, hg3, hg4, hg5, List.length_append, List.map_append]; done) | rfl)
        · simp only [go_sem, s1, hg3, hg4, hg5]
          refine ibr_intro (fun hg6 => ?_) (fun hg6 => ?_)
          · simp only [go_sem, s1, hg3, hg4, hg5, hg6]
            refine ibr_intro (fun hg7 => ?_) (fun hg7 => ?_)
            · simp only [go_sem, s1, hg3, hg4, hg5, hg6, hg7]
              refine icall_fn (k_halls_span x2.Walk 1 20) ?_
              simp only [go_sem, s1, hg3, hg4, hg5, hg6, hg7]
              exact hK _ _ (by first | (simp only [go_sem, hg3, hg4, hg5, hg6, hg7, List.length_append, List.map_append]; done) | rfl)
            · simp only [go_sem, s1, hg3, hg4, hg5, hg6, hg7]
              exact hK _ _ (by first | (simp only [go_sem, hg3, hg4, hg5, hg6, hg7, List.length_append, List.map_append]; done) | rfl)
          · simp only [go_sem, s1, hg3, hg4, hg5, hg6]
            exact hK _ _ (by first | (simp only [go_sem, hg3, hg4, hg5, hg6, List.length_append, List.map_append]; done) | rfl)
      · simp only [go_sem, s1, hg3, hg4]
        exact hK _ _ (by first | (simp only [go_sem, hg3, hg4, List.length_append, List.map_append]; done) | rfl)
    · simp only [go_sem, s1, hg3]
      exact hK _ _ (by first | (simp only [go_sem, hg3, List.length_append, List.map_append]; done) | rfl)
  · rintro t h s4
    simp only [cw_ret, qseq_ret, qblock_ret, retQ_ret]
    obtain rfl := Option.some.inj hm0
    exact done_t (by simp only [go_sem, s4, List.length_append, List.map_append]) (frz_v _)

end Go.Nw.HM

namespace Go.Nw.HM
open Go.Nw.Halls
set_option linter.unusedSimpArgs false
set_option linter.unusedVariables false
set_option maxHeartbeats 4000000
variable {O : Orac}

theorem k_halls_isDay (hf : Has O "newel/halls.isDay" x_halls_isDay) (k_halls_in : C_halls_in O) (k_slices_ContainsFunc___int_int_ : C_slices_ContainsFunc___int_int_ O) (k_halls_isDayD1 : C_halls_isDayD1 O) : C_halls_isDay O := by
  intro h_ d r hm0
  unfold halls_isDay at hm0
  refine fn_cw hf rfl (fz_cons (.agg _ (fz_cons (frz_fs fun a _ => fz_eComb a) (fz_cons (frz_fs fun a _ => fz_eTrain a) (fz_cons (frz_fs fun a _ => fz_eShift a) (fz_cons (frz_v _) fz_nil))))) (fz_cons (.agg _ (fz_cons (frz_fs fun a _ => fz_eI a) (fz_cons (frz_fs fun a _ => fz_eL_I a) (fz_cons (frz_fs fun a _ => fz_eL_I a) fz_nil)))) fz_nil)) (frz_v _) ?_
  refine cw_start (fun t h => t 0 = .agg [.fs 5 (List.map eComb h_.Combs), .fs 3 (List.map eTrain h_.Trains), .fs 3 (List.map eShift h_.Shifts), I h_.Until] ∧ t 1 = .agg [.fs 1 (List.map eI d.At), .fs 1 (List.map eL_I d.People), .fs 1 (List.map eL_I d.Walks)]) ⟨rfl, rfl⟩ fun t h ⟨s0, s1⟩ => ?_
  simp only [x_halls_isDay]
  refine cw_reg_seq fun K hK => ?_
  simp only [go_sem, s0, s1]
  refine hK _ _ ?_
  clear hK K
  refine cw_assoc ?_
  refine cw_reg_postK (fun t h => t 2 = .fp [.fs 5 (List.map eComb h_.Combs), .fs 3 (List.map eTrain h_.Trains), .fs 3 (List.map eShift h_.Shifts), I h_.Until] 0 ∧ t 3 = .fp [.fs 1 (List.map eI d.At), .fs 1 (List.map eL_I d.People), .fs 1 (List.map eL_I d.Walks)] 0 ∧ t 36 = B (((decide (¬(List.length d.At : Int) = (List.length h_.Trains : Int))) || (decide (¬(List.length d.People : Int) = (List.length h_.Trains : Int)))) || (decide (¬(List.length d.Walks : Int) = (List.length h_.Combs : Int))))) (fun K hK => ?_) ?_
  · simp only [go_sem]
    refine ibr_intro (fun hg1 => ?_) (fun hg1 => ?_)
    · simp only [go_sem, hg1]
      exact hK _ _ ⟨(by first | (simp only [go_sem, hg1, List.length_append, List.map_append]; done) | rfl), (by first | (simp only [go_sem, hg1, List.length_append, List.map_append]; done) | rfl), (by first | (simp only [go_sem, hg1, List.length_append, List.map_append]; done) | rfl)⟩
    · simp only [go_sem, hg1]
      refine ibr_intro (fun hg2 => ?_) (fun hg2 => ?_)
      · simp only [go_sem, hg1, hg2]
        exact hK _ _ ⟨(by first | (simp only [go_sem, hg1, hg2, List.length_append, List.map_append]; done) | rfl), (by first | (simp only [go_sem, hg1, hg2, List.length_append, List.map_append]; done) | rfl), (by first | (simp only [go_sem, hg1, hg2, List.length_append, List.map_append]; done) | rfl)⟩
      · simp only [go_sem, hg1, hg2]
        exact hK _ _ ⟨(by first | (simp only [go_sem, hg1, hg2, List.length_append, List.map_append]; done) | rfl), (by first | (simp only [go_sem, hg1, hg2, List.length_append, List.map_append]; done) | rfl), (by first | (simp only [go_sem, hg1, hg2, List.length_append, List.map_append]; done) | rfl)⟩
  · rintro t h ⟨s2, s3, s36⟩
    refine cw_seq_k fun K3 hK3 => ?_
    simp only [go_sem, s36]
    refine ibr_intro (fun hc4 => ?_) (fun hc4 => ?_)
    · rw [if_t hc4] at hm0
      refine cw_reg_seq fun K hK => ?_
      simp only [go_sem]
      refine hK _ _ ?_
      clear hK K
      simp only [cw_ret, qseq_ret, qblock_ret, retQ_ret]
      obtain rfl := Option.some.inj hm0
      exact done_t (by simp only [go_sem, List.length_append, List.map_append]) (frz_v _)
    · rw [if_f hc4] at hm0
      simp only [cw_skip, qblock_normal, qseq_normal]
      refine hK3 _ _ ?_
      refine cw_assoc ?_
      refine cw_reg_seq fun K hK => ?_
      simp only [go_sem, s2]
      refine hK _ _ ?_
      clear hK K
      refine cw_seq_k fun K5 hK5 => ?_
      have J6 : ∀ (t : Slots) (h : Heap), t 2 = .fp [.fs 5 (List.map eComb h_.Combs), .fs 3 (List.map eTrain h_.Trains), .fs 3 (List.map eShift h_.Shifts), I h_.Until] 0 → t 3 = .fp [.fs 1 (List.map eI d.At), .fs 1 (List.map eL_I d.People), .fs 1 (List.map eL_I d.Walks)] 0 → halls_isDay_j6 h_ d = some r → K5 t h := by
        intro t h s2 s3 hm0
        refine hK5 _ _ ?_
        unfold halls_isDay_j6 at hm0
        refine cw_assoc ?_
        refine cw_reg_seq fun K hK => ?_
        simp only [go_sem, s2]
        refine hK _ _ ?_
        clear hK K
        refine cw_seq_k fun K7 hK7 => ?_
        have J8 : ∀ (t : Slots) (h : Heap), halls_isDay_j8 = some r → K7 t h := by
          intro t h hm0
          refine hK7 _ _ ?_
          unfold halls_isDay_j8 at hm0
          refine cw_reg_seq fun K hK => ?_
          simp only [go_sem]
          refine hK _ _ ?_
          clear hK K
          simp only [cw_ret, qseq_ret, qblock_ret, retQ_ret]
          obtain rfl := Option.some.inj hm0
          exact done_t (by simp only [go_sem, List.length_append, List.map_append]) (frz_v _)
        simp only [cw_block]
        obtain ⟨b9, hl9, hm0⟩ := bind_get hm0
        refine cw_loopM hl9 (fun | x_91, t, h => t 3 = .fp [.fs 1 (List.map eI d.At), .fs 1 (List.map eL_I d.People), .fs 1 (List.map eL_I d.Walks)] 0 ∧ t 89 = .fs 5 (List.map eComb h_.Combs) ∧ t 90 = I (List.length h_.Combs : Int) ∧ t 91 = I x_91) ?_ ?_
        · exact ⟨s3, (by first | (simp only [go_sem, List.length_append, List.map_append]; done) | rfl), (by first | (simp only [go_sem, List.length_append, List.map_append]; done) | rfl), (by first | (simp only [go_sem, List.length_append, List.map_append]; done) | rfl)⟩
        · rintro x_91 o t h ⟨s3, s89, s90, s91⟩ hm1 hb9
          simp only [halls_isDay_L24] at hm1
          rw [x_halls_isDay_L24]
          refine cw_reg_seq fun K hK => ?_
          simp only [go_sem, s90, s91]
          refine hK _ _ ?_
          clear hK K
          refine cw_seq_k fun K10 hK10 => ?_
          simp only [go_sem]
          refine ibr_intro (fun hc11 => ?_) (fun hc11 => ?_)
          · rw [if_t hc11] at hm1
            simp only [cw_skip, qblock_normal, qseq_normal]
            refine hK10 _ _ ?_
            refine cw_seq_k fun K12 hK12 => ?_
            simp only [cw_block]
            obtain ⟨x14, h_x14, hm1⟩ := bind_get hm1
            have h_x140 := get_nn h_x14
            have h_x141 := get_lt h_x14
            refine cw_reg_seq fun K hK => ?_
            simp only [go_sem, s89, s91, ielem_get h_x14, irow_get h_x14, h_x140, h_x141]
            refine hK _ _ ?_
            clear hK K
            refine cw_reg_seq fun K hK => ?_
            simp only [go_sem]
            refine hK _ _ ?_
            clear hK K
            obtain ⟨x19, h_x19, hm1⟩ := bind_get hm1
            have h_x190 := get_nn h_x19
            have h_x191 := get_lt h_x19
            obtain ⟨c22, h_c22, hm1⟩ := bind_get hm1
            refine cw_reg_postK (fun t h => t 3 = .fp [.fs 1 (List.map eI d.At), .fs 1 (List.map eL_I d.People), .fs 1 (List.map eL_I d.Walks)] 0 ∧ t 89 = .fs 5 (List.map eComb h_.Combs) ∧ t 90 = I (List.length h_.Combs : Int) ∧ t 91 = I x_91 ∧ t 121 = B c22) (fun K hK => ?_) ?_
            · simp only [go_sem, s3, ielem_get h_x19, irow_get h_x19, h_x190, h_x191]
              refine ibr_intro (fun hg23 => ?_) (fun hg23 => ?_)
              · simp only [hg23, Bool.not_true, Bool.not_false, eq_self, if_true, if_false, Bool.true_or, Bool.or_true, Bool.false_or, Bool.or_false, Bool.true_and, Bool.and_true, Bool.false_and, Bool.and_false, Bool.false_eq_true] at h_c22
                obtain rfl := Option.some.inj h_c22
                simp only [go_sem, s3, ielem_get h_x19, irow_get h_x19, h_x190, h_x191, hg23]
                exact hK _ _ ⟨s3, s89, s90, s91, (by first | (simp only [go_sem, hg23, List.length_append, List.map_append]; done) | rfl)⟩
              · simp only [go_sem, s3, ielem_get h_x19, irow_get h_x19, h_x190, h_x191, hg23]
                refine ibr_intro (fun hg24 => ?_) (fun hg24 => ?_)
                · simp only [hg23, hg24, Bool.not_true, Bool.not_false, eq_self, if_true, if_false, Bool.true_or, Bool.or_true, Bool.false_or, Bool.or_false, Bool.true_and, Bool.and_true, Bool.false_and, Bool.and_false, Bool.false_eq_true] at h_c22
                  obtain rfl := Option.some.inj h_c22
                  simp only [go_sem, s3, ielem_get h_x19, irow_get h_x19, h_x190, h_x191, hg23, hg24]
                  exact hK _ _ ⟨s3, s89, s90, s91, (by first | (simp only [go_sem, hg23, hg24, List.length_append, List.map_append]; done) | rfl)⟩
                · simp only [hg23, hg24, Bool.not_true, Bool.not_false, eq_self, if_true, if_false, Bool.true_or, Bool.or_true, Bool.false_or, Bool.or_false, Bool.true_and, Bool.and_true, Bool.false_and, Bool.and_false, Bool.false_eq_true] at h_c22
                  obtain ⟨y21, h_y21, h_c22⟩ := bind_get h_c22
                  obtain rfl := Option.some.inj h_c22
                  simp only [go_sem, s3, ielem_get h_x19, irow_get h_x19, h_x190, h_x191, hg23, hg24]
                  refine icall_fz ?_ (k_slices_ContainsFunc___int_int_ x19 "newel/halls.isDay$1" [] [.fp [I x14.Rate, I x14.Limit, I x14.Next, I x14.Walk.Low, I x14.Walk.High] 0] (fun z20 => some (halls_isDayD1 z20 x14)) (.fn _ _ _ fz_nil (fz_cons (.fp _ _ (fz_cons (frz_v _) (fz_cons (frz_v _) (fz_cons (frz_v _) (fz_cons (frz_v _) (fz_cons (frz_v _) fz_nil)))))) fz_nil)) (fun z0 y hz => by cases hz; exact k_halls_isDayD1 z0 x14) _ h_y21) (.v _) ?_
                  · exact .cons (.refl _ (frz_fs fun a _ => fz_eI a)) (.cons (fz_fn (.nil) (.cons (fz_rp (id := h.nx) (sz := 5) (xs := [I x14.Rate, I x14.Limit, I x14.Next, I x14.Walk.Low, I x14.Walk.High]) (by simp only [go_sem]) (.cons (.refl _ (frz_v _)) (.cons (.refl _ (frz_v _)) (.cons (.refl _ (frz_v _)) (.cons (.refl _ (frz_v _)) (.cons (.refl _ (frz_v _)) (.nil))))))) (.nil))) (.nil))
                  simp only [go_sem, s3, ielem_get h_x19, irow_get h_x19, h_x190, h_x191, hg23, hg24]
                  exact hK _ _ ⟨s3, s89, s90, s91, (by first | (simp only [go_sem, hg23, hg24, List.length_append, List.map_append]; done) | rfl)⟩
            · rintro t h ⟨s3, s89, s90, s91, s121⟩
              simp only [go_sem, s121]
              refine ibr_intro (fun hc25 => ?_) (fun hc25 => ?_)
              · rw [if_t hc25] at hm1
                refine cw_reg_seq fun K hK => ?_
                simp only [go_sem]
                refine hK _ _ ?_
                clear hK K
                simp only [cw_ret, qseq_ret, qblock_ret, retQ_ret]
                obtain rfl := Option.some.inj hm1
                obtain rfl := hb9 _ rfl
                try dsimp only at hm0
                obtain rfl := Option.some.inj hm0
                exact done_t (by simp only [go_sem, List.length_append, List.map_append]) (frz_v _)
              · rw [if_f hc25] at hm1
                simp only [cw_skip, qblock_normal, qseq_normal]
                refine hK12 _ _ ?_
                refine cw_reg_k fun K hK => ?_
                simp only [go_sem, s91]
                refine hK _ _ ?_
                clear hK K
                simp only [qblock_normal, qseq_normal]
                obtain rfl := Option.some.inj hm1
                refine ⟨_, rfl, ?_⟩
                exact ⟨s3, s89, s90, (by first | (simp only [go_sem, s91, List.length_append, List.map_append]; done) | rfl)⟩
          · rw [if_f hc11] at hm1
            simp only [cw_exit, qseq_exit, qblock_same, qblock_ne, qblock_normal, qseq_normal, Nat.reduceEqDiff, not_false_eq_true]
            obtain rfl := Option.some.inj hm1
            obtain rfl := hb9 _ rfl
            try dsimp only at hm0
            exact J8  _ _  hm0
      simp only [cw_block]
      obtain ⟨b27, hl27, hm0⟩ := bind_get hm0
      refine cw_loopM hl27 (fun | x_40, t, h => t 2 = .fp [.fs 5 (List.map eComb h_.Combs), .fs 3 (List.map eTrain h_.Trains), .fs 3 (List.map eShift h_.Shifts), I h_.Until] 0 ∧ t 3 = .fp [.fs 1 (List.map eI d.At), .fs 1 (List.map eL_I d.People), .fs 1 (List.map eL_I d.Walks)] 0 ∧ t 38 = .fs 3 (List.map eTrain h_.Trains) ∧ t 39 = I (List.length h_.Trains : Int) ∧ t 40 = I x_40) ?_ ?_
      · exact ⟨s2, s3, (by first | (simp only [go_sem, List.length_append, List.map_append]; done) | rfl), (by first | (simp only [go_sem, List.length_append, List.map_append]; done) | rfl), (by first | (simp only [go_sem, List.length_append, List.map_append]; done) | rfl)⟩
      · rintro x_40 o t h ⟨s2, s3, s38, s39, s40⟩ hm1 hb27
        simp only [halls_isDay_L16] at hm1
        rw [x_halls_isDay_L16]
        refine cw_reg_seq fun K hK => ?_
        simp only [go_sem, s39, s40]
        refine hK _ _ ?_
        clear hK K
        refine cw_seq_k fun K28 hK28 => ?_
        simp only [go_sem]
        refine ibr_intro (fun hc29 => ?_) (fun hc29 => ?_)
        · rw [if_t hc29] at hm1
          simp only [cw_skip, qblock_normal, qseq_normal]
          refine hK28 _ _ ?_
          refine cw_seq_k fun K30 hK30 => ?_
          have J31 : ∀ (t : Slots) (h : Heap), t 2 = .fp [.fs 5 (List.map eComb h_.Combs), .fs 3 (List.map eTrain h_.Trains), .fs 3 (List.map eShift h_.Shifts), I h_.Until] 0 → t 3 = .fp [.fs 1 (List.map eI d.At), .fs 1 (List.map eL_I d.People), .fs 1 (List.map eL_I d.Walks)] 0 → t 38 = .fs 3 (List.map eTrain h_.Trains) → t 39 = I (List.length h_.Trains : Int) → t 40 = I x_40 → halls_isDay_j31 x_40 = some o → K30 t h := by
            intro t h s2 s3 s38 s39 s40 hm1
            refine hK30 _ _ ?_
            unfold halls_isDay_j31 at hm1
            refine cw_reg_k fun K hK => ?_
            simp only [go_sem, s40]
            refine hK _ _ ?_
            clear hK K
            simp only [qblock_normal, qseq_normal]
            obtain rfl := Option.some.inj hm1
            refine ⟨_, rfl, ?_⟩
            exact ⟨s2, s3, s38, s39, (by first | (simp only [go_sem, s40, List.length_append, List.map_append]; done) | rfl)⟩
          simp only [cw_block]
          obtain ⟨x33, h_x33, hm1⟩ := bind_get hm1
          have h_x330 := get_nn h_x33
          have h_x331 := get_lt h_x33
          refine cw_reg_seq fun K hK => ?_
          simp only [go_sem, s38, s40, ielem_get h_x33, irow_get h_x33, h_x330, h_x331]
          refine hK _ _ ?_
          clear hK K
          refine cw_assoc ?_
          obtain ⟨x37, h_x37, hm1⟩ := bind_get hm1
          have h_x370 := get_nn h_x37
          have h_x371 := get_lt h_x37
          obtain ⟨c39, h_c39, hm1⟩ := bind_get hm1
          refine cw_reg_postK (fun t h => ∃ i6 : Nat, t 2 = .fp [.fs 5 (List.map eComb h_.Combs), .fs 3 (List.map eTrain h_.Trains), .fs 3 (List.map eShift h_.Shifts), I h_.Until] 0 ∧ t 3 = .fp [.fs 1 (List.map eI d.At), .fs 1 (List.map eL_I d.People), .fs 1 (List.map eL_I d.Walks)] 0 ∧ t 5 = I x_40 ∧ t 6 = .rp i6 0 0 ∧ t 38 = .fs 3 (List.map eTrain h_.Trains) ∧ t 39 = I (List.length h_.Trains : Int) ∧ t 40 = I x_40 ∧ t 65 = B c39 ∧ h.ob i6 = some (3, [[I x33.At.Low, I x33.At.High, .fs 3 (List.map eCrowd x33.Crowds)]]) ∧ i6 < h.nx) (fun K hK => ?_) ?_
          · simp only [go_sem, s3, ielem_get h_x37, irow_get h_x37, h_x370, h_x371]
            refine icall_fn (k_halls_in x37 x33.At) ?_
            simp only [go_sem, s3, ielem_get h_x37, irow_get h_x37, h_x370, h_x371]
            refine ibr_intro (fun hg40 => ?_) (fun hg40 => ?_)
            · simp only [hg40, Bool.not_true, Bool.not_false, eq_self, if_true, if_false, Bool.true_or, Bool.or_true, Bool.false_or, Bool.or_false, Bool.true_and, Bool.and_true, Bool.false_and, Bool.and_false, Bool.false_eq_true] at h_c39
              obtain rfl := Option.some.inj h_c39
              simp only [go_sem, s3, ielem_get h_x37, irow_get h_x37, h_x370, h_x371, hg40]
              exact hK _ _ ⟨h.nx, s2, s3, (by first | (simp only [go_sem, hg40, List.length_append, List.map_append]; done) | rfl), (by first | (simp only [go_sem, hg40, List.length_append, List.map_append]; done) | rfl), s38, s39, s40, (by first | (simp only [go_sem, hg40, List.length_append, List.map_append]; done) | rfl), (by simp only [go_sem, hg40, List.length_append, List.map_append]), (by simp only [go_sem])⟩
            · simp only [hg40, Bool.not_true, Bool.not_false, eq_self, if_true, if_false, Bool.true_or, Bool.or_true, Bool.false_or, Bool.or_false, Bool.true_and, Bool.and_true, Bool.false_and, Bool.and_false, Bool.false_eq_true] at h_c39
              obtain ⟨x38, h_x38, h_c39⟩ := bind_get h_c39
              have h_x380 := get_nn h_x38
              have h_x381 := get_lt h_x38
              obtain rfl := Option.some.inj h_c39
              simp only [go_sem, s3, ielem_get h_x37, irow_get h_x37, h_x370, h_x371, ielem_get h_x38, irow_get h_x38, h_x380, h_x381, hg40]
              exact hK _ _ ⟨h.nx, s2, s3, (by first | (simp only [go_sem, hg40, List.length_append, List.map_append]; done) | rfl), (by first | (simp only [go_sem, hg40, List.length_append, List.map_append]; done) | rfl), s38, s39, s40, (by first | (simp only [go_sem, hg40, List.length_append, List.map_append]; done) | rfl), (by simp only [go_sem, hg40, List.length_append, List.map_append]), (by simp only [go_sem])⟩
          · rintro t h ⟨i6, s2, s3, s5, s6, s38, s39, s40, s65, q16, q14⟩
            refine cw_seq_k fun K41 hK41 => ?_
            simp only [go_sem, s65]
            refine ibr_intro (fun hc42 => ?_) (fun hc42 => ?_)
            · rw [if_t hc42] at hm1
              refine cw_reg_seq fun K hK => ?_
              simp only [go_sem, q14]
              refine hK _ _ ?_
              clear hK K
              simp only [cw_ret, qseq_ret, qblock_ret, retQ_ret]
              obtain rfl := Option.some.inj hm1
              obtain rfl := hb27 _ rfl
              try dsimp only at hm0
              obtain rfl := Option.some.inj hm0
              exact done_t (by simp only [go_sem, q16, q14, List.length_append, List.map_append]) (frz_v _)
            · rw [if_f hc42] at hm1
              simp only [cw_skip, qblock_normal, qseq_normal]
              refine hK41 _ _ ?_
              refine cw_reg_seq fun K hK => ?_
              simp only [go_sem, s6, q16, q14]
              refine hK _ _ ?_
              clear hK K
              simp only [cw_block]
              obtain ⟨b43, hl43, hm1⟩ := bind_get hm1
              refine cw_loopM hl43 (fun | x_69, t, h => t 2 = .fp [.fs 5 (List.map eComb h_.Combs), .fs 3 (List.map eTrain h_.Trains), .fs 3 (List.map eShift h_.Shifts), I h_.Until] 0 ∧ t 3 = .fp [.fs 1 (List.map eI d.At), .fs 1 (List.map eL_I d.People), .fs 1 (List.map eL_I d.Walks)] 0 ∧ t 5 = I x_40 ∧ t 38 = .fs 3 (List.map eTrain h_.Trains) ∧ t 39 = I (List.length h_.Trains : Int) ∧ t 40 = I x_40 ∧ t 67 = .fs 3 (List.map eCrowd x33.Crowds) ∧ t 68 = I (List.length x33.Crowds : Int) ∧ t 69 = I x_69) ?_ ?_
              · exact ⟨s2, s3, s5, s38, s39, s40, (by first | (simp only [go_sem, List.length_append, List.map_append]; done) | rfl), (by first | (simp only [go_sem, List.length_append, List.map_append]; done) | rfl), (by first | (simp only [go_sem, List.length_append, List.map_append]; done) | rfl)⟩
              · try clear s2 s3 s5 s6 s38 s39 s40 s65 q16 q14
                rintro x_69 o t h ⟨s2, s3, s5, s38, s39, s40, s67, s68, s69⟩ hm2 hb43
                simp only [halls_isDay_L14] at hm2
                rw [x_halls_isDay_L14]
                refine cw_reg_seq fun K hK => ?_
                simp only [go_sem, s68, s69]
                refine hK _ _ ?_
                clear hK K
                refine cw_seq_k fun K44 hK44 => ?_
                simp only [go_sem]
                refine ibr_intro (fun hc45 => ?_) (fun hc45 => ?_)
                · rw [if_t hc45] at hm2
                  simp only [cw_skip, qblock_normal, qseq_normal]
                  refine hK44 _ _ ?_
                  refine cw_seq_k fun K46 hK46 => ?_
                  simp only [cw_block]
                  obtain ⟨x48, h_x48, hm2⟩ := bind_get hm2
                  have h_x480 := get_nn h_x48
                  have h_x481 := get_lt h_x48
                  refine cw_reg_seq fun K hK => ?_
                  simp only [go_sem, s67, s69, ielem_get h_x48, irow_get h_x48, h_x480, h_x481]
                  refine hK _ _ ?_
                  clear hK K
                  obtain ⟨x51, h_x51, hm2⟩ := bind_get hm2
                  have h_x510 := get_nn h_x51
                  have h_x511 := get_lt h_x51
                  obtain ⟨x52, h_x52, hm2⟩ := bind_get hm2
                  have h_x520 := get_nn h_x52
                  have h_x521 := get_lt h_x52
                  refine cw_reg_seq fun K hK => ?_
                  simp only [go_sem, s3, s5, ielem_get h_x51, irow_get h_x51, h_x510, h_x511, ielem_get h_x52, irow_get h_x52, h_x520, h_x521]
                  refine icall_fn (k_halls_in x52 x48.People) ?_
                  simp only [go_sem, s3, s5, ielem_get h_x51, irow_get h_x51, h_x510, h_x511, ielem_get h_x52, irow_get h_x52, h_x520, h_x521]
                  refine hK _ _ ?_
                  clear hK K
                  simp only [go_sem]
                  refine ibr_intro (fun hc53 => ?_) (fun hc53 => ?_)
                  · rw [if_t hc53] at hm2
                    refine cw_reg_seq fun K hK => ?_
                    simp only [go_sem]
                    refine hK _ _ ?_
                    clear hK K
                    simp only [cw_ret, qseq_ret, qblock_ret, retQ_ret]
                    obtain rfl := Option.some.inj hm2
                    obtain rfl := hb43 _ rfl
                    try dsimp only at hm1
                    obtain rfl := Option.some.inj hm1
                    obtain rfl := hb27 _ rfl
                    try dsimp only at hm0
                    obtain rfl := Option.some.inj hm0
                    exact done_t (by simp only [go_sem, List.length_append, List.map_append]) (frz_v _)
                  · rw [if_f hc53] at hm2
                    simp only [cw_skip, qblock_normal, qseq_normal]
                    refine hK46 _ _ ?_
                    refine cw_reg_k fun K hK => ?_
                    simp only [go_sem, s69]
                    refine hK _ _ ?_
                    clear hK K
                    simp only [qblock_normal, qseq_normal]
                    obtain rfl := Option.some.inj hm2
                    refine ⟨_, rfl, ?_⟩
                    exact ⟨s2, s3, s5, s38, s39, s40, s67, s68, (by first | (simp only [go_sem, s69, List.length_append, List.map_append]; done) | rfl)⟩
                · rw [if_f hc45] at hm2
                  simp only [cw_exit, qseq_exit, qblock_same, qblock_ne, qblock_normal, qseq_normal, Nat.reduceEqDiff, not_false_eq_true]
                  obtain rfl := Option.some.inj hm2
                  obtain rfl := hb43 _ rfl
                  try dsimp only at hm1
                  exact J31  _ _ s2 s3 s38 s39 s40 hm1
        · rw [if_f hc29] at hm1
          simp only [cw_exit, qseq_exit, qblock_same, qblock_ne, qblock_normal, qseq_normal, Nat.reduceEqDiff, not_false_eq_true]
          obtain rfl := Option.some.inj hm1
          obtain rfl := hb27 _ rfl
          try dsimp only at hm0
          exact J6  _ _ s2 s3 hm0

end Go.Nw.HM

namespace Go.Nw.HM
open Go.Nw.Halls
set_option linter.unusedSimpArgs false
set_option linter.unusedVariables false
set_option maxHeartbeats 4000000
variable {O : Orac}

theorem k_halls_isDayD1 (hf : Has O "newel/halls.isDay$1" x_halls_isDayD1) (k_halls_in : C_halls_in O) : C_halls_isDayD1 O := by
  intro n c0
  generalize hm0 : halls_isDayD1 n c0 = r
  unfold halls_isDayD1 at hm0
  refine fn_cw hf rfl (fz_cons (frz_v _) (fz_cons (.fp _ _ (fz_cons (frz_v _) (fz_cons (frz_v _) (fz_cons (frz_v _) (fz_cons (frz_v _) (fz_cons (frz_v _) fz_nil)))))) fz_nil)) (frz_v _) ?_
  refine cw_start (fun t h => t 0 = I n ∧ t 1 = .fp [I c0.Rate, I c0.Limit, I c0.Next, I c0.Walk.Low, I c0.Walk.High] 0) ⟨rfl, rfl⟩ fun t h ⟨s0, s1⟩ => ?_
  simp only [x_halls_isDayD1]
  refine cw_reg_seq fun K hK => ?_
  simp only [go_sem]
  refine hK _ _ ?_
  clear hK K
  refine cw_reg_seq fun K hK => ?_
  simp only [go_sem, s0, s1]
  refine icall_fn (k_halls_in n c0.Walk) ?_
  simp only [go_sem, s0, s1]
  refine hK _ _ ?_
  clear hK K
  simp only [cw_ret, qseq_ret, qblock_ret, retQ_ret]
  obtain rfl := hm0
  exact done_t (by simp only [go_sem, List.length_append, List.map_append]) (frz_v _)

end Go.Nw.HM

namespace Go.Nw.HM
open Go.Nw.Halls
set_option linter.unusedSimpArgs false
set_option linter.unusedVariables false
set_option maxHeartbeats 4000000
variable {O : Orac}

theorem k_halls_overD1 (hf : Has O "newel/halls.over$1" x_halls_overD1) : C_halls_overD1 O := by
  intro n c0 c1 r hm0
  unfold halls_overD1 at hm0
  refine fn_cw hf rfl (fz_cons (frz_v _) (fz_cons (.fp _ _ (fz_cons (frz_fs fun a _ => fz_eComb a) (fz_cons (frz_fs fun a _ => fz_eTrain a) (fz_cons (frz_fs fun a _ => fz_eShift a) (fz_cons (frz_v _) fz_nil))))) (fz_cons (.fp _ _ (fz_cons (frz_v _) fz_nil)) fz_nil))) (frz_v _) ?_
  refine cw_start (fun t h => t 0 = I n ∧ t 1 = .fp [.fs 5 (List.map eComb c0.Combs), .fs 3 (List.map eTrain c0.Trains), .fs 3 (List.map eShift c0.Shifts), I c0.Until] 0 ∧ t 2 = .fp [I c1] 0) ⟨rfl, rfl, rfl⟩ fun t h ⟨s0, s1, s2⟩ => ?_
  simp only [x_halls_overD1]
  refine cw_reg_seq fun K hK => ?_
  simp only [go_sem]
  refine hK _ _ ?_
  clear hK K
  obtain ⟨x2, h_x2, hm0⟩ := bind_get hm0
  have h_x20 := get_nn h_x2
  have h_x21 := get_lt h_x2
  refine cw_reg_seq fun K hK => ?_
  simp only [go_sem, s0, s1, s2, ielem_get h_x2, irow_get h_x2, h_x20, h_x21]
  refine hK _ _ ?_
  clear hK K
  simp only [cw_ret, qseq_ret, qblock_ret, retQ_ret]
  obtain rfl := Option.some.inj hm0
  exact done_t (by simp only [go_sem, List.length_append, List.map_append]) (frz_v _)

end Go.Nw.HM

namespace Go.Nw.HM
open Go.Nw.Halls
set_option linter.unusedSimpArgs false
set_option linter.unusedVariables false
set_option maxHeartbeats 4000000
variable {O : Orac}

theorem k_halls_span (hf : Has O "newel/halls.span" x_halls_span) : C_halls_span O := by
  intro s low high
  generalize hm0 : halls_span s low high = r
  unfold halls_span at hm0
  refine fn_cw hf rfl (fz_cons (.agg _ (fz_cons (frz_v _) (fz_cons (frz_v _) fz_nil))) (fz_cons (frz_v _) (fz_cons (frz_v _) fz_nil))) (frz_v _) ?_
  refine cw_start (fun t h => t 0 = .agg [I s.Low, I s.High] ∧ t 1 = I low ∧ t 2 = I high) ⟨rfl, rfl, rfl⟩ fun t h ⟨s0, s1, s2⟩ => ?_
  simp only [x_halls_span]
  refine cw_reg_seq fun K hK => ?_
  simp only [go_sem, s0]
  refine hK _ _ ?_
  clear hK K
  refine cw_reg_postK (fun t h => t 6 = B (((decide (low ≤ s.Low)) && (decide (s.Low ≤ s.High))) && (decide (s.High ≤ high)))) (fun K hK => ?_) ?_
  · simp only [go_sem, s1, s2]
    refine ibr_intro (fun hg1 => ?_) (fun hg1 => ?_)
    · simp only [go_sem, s1, s2, hg1]
      refine ibr_intro (fun hg2 => ?_) (fun hg2 => ?_)
      · simp only [go_sem, s1, s2, hg1, hg2]
        exact hK _ _ (by first | (simp only [go_sem, hg1, hg2, List.length_append, List.map_append]; done) | rfl)
      · simp only [go_sem, s1, s2, hg1, hg2]
        exact hK _ _ (by first | (simp only [go_sem, hg1, hg2, List.length_append, List.map_append]; done) | rfl)
    · simp only [go_sem, s1, s2, hg1]
      exact hK _ _ (by first | (simp only [go_sem, hg1, List.length_append, List.map_append]; done) | rfl)
  · rintro t h s6
    simp only [cw_ret, qseq_ret, qblock_ret, retQ_ret]
    obtain rfl := hm0
    exact done_t (by simp only [go_sem, s6, List.length_append, List.map_append]) (frz_v _)

end Go.Nw.HM
