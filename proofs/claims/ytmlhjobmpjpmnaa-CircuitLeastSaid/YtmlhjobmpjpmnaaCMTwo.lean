/- The plain law of two switches; lists alike. -/
import Derived.Test.YtmlhjobmpjpmnaaCMOrder
set_option linter.all false
set_option linter.unusedVariables false
set_option linter.unusedSimpArgs false
set_option linter.unusedSectionVars false
namespace Go.Nw.CM

theorem has_eq {l : List Int} {n : Int} (hl : l.length ≤ maxLen) : l03_has l n = some (decide (n ∈ l)) := by
  have h := loop_list (f := l03_has_L6 l n) l (fun (_ : Unit) k => k) (fun r _ => if n ∈ r then Sum.inr true else Sum.inl ()) (fun _ _ => True)
    (fun st k x r hd hg hk hm _ => by
      unfold l03_has_L6
      simp only [hk, decide_true, if_true, hg, Option.bind_some]
      by_cases e : x = n
      · refine .inr ?_
        simp [e]
      · refine .inl ⟨(), ?_, trivial, ?_⟩
        · simp only [e, decide_false, Bool.false_eq_true, if_false, wr_len hk hl]
        · have e2 : (n ∈ x :: r) ↔ n ∈ r := by rw [List.mem_cons]; exact ⟨fun h => h.resolve_left fun h => e h.symm, .inr⟩
          simp only [e2])
    (fun st _ => by unfold l03_has_L6; simp) (s := ()) trivial
  unfold l03_has
  rw [h]
  by_cases hv : n ∈ l
  · simp [hv]
  · simp [hv, l03_has_j2]
theorem sameInts_self {l : List Int} (hl : l.length ≤ maxLen) : l03_sameInts l l = some true := by
  have h := loop_list (f := l03_sameInts_L8 l l) l (fun (_ : Unit) k => k) (fun _ _ => Sum.inl ()) (fun _ _ => True)
    (fun st k x r hd hg hk hm _ => by
      unfold l03_sameInts_L8
      simp only [hk, decide_true, if_true, hg, Option.bind_some, not_true_eq_false, decide_false, Bool.false_eq_true, if_false, wr_len hk hl]
      exact .inl ⟨(), by trivial, trivial, by trivial⟩)
    (fun st _ => by unfold l03_sameInts_L8; simp) (s := ()) trivial
  unfold l03_sameInts
  rw [h]
  simp [l03_sameInts_j4]
theorem samePairs_self {l : List (Int × Int)} (hl : l.length ≤ maxLen) : l03_samePairs l l = some true := by
  have h := loop_list (f := l03_samePairs_L8 l l) l (fun (_ : Unit) k => k) (fun _ _ => Sum.inl ()) (fun _ _ => True)
    (fun st k x r hd hg hk hm _ => by
      unfold l03_samePairs_L8
      simp only [hk, decide_true, if_true, hg, Option.bind_some, Bool.and_self, Bool.not_true, Bool.false_eq_true, if_false, wr_len hk hl]
      exact .inl ⟨(), by trivial, trivial, by trivial⟩)
    (fun st _ => by unfold l03_samePairs_L8; simp) (s := ()) trivial
  unfold l03_samePairs
  rw [h]
  simp [l03_samePairs_j4]

theorem wk_pos {c : Circuit} {cl : Int} : (0 < (wk c cl).length) ↔ ∃ k, k < c.Hazards.toNat ∧ cnd c ((2 ^ k : Nat) : Int) cl 0 0 = true := by
  unfold wk
  rw [List.length_map, List.length_pos_iff_exists_mem]
  simp only [List.mem_filter, List.mem_range]
section
variable {c : Circuit} (hc : OkC c) (hv : Valid c)
include hc hv
theorem wk_mono {cl cl' : Nat} (h : Sub cl cl') (l1 : cl < 4096) (l2 : cl' < 4096) (hp : 0 < (wk c cl).length) : 0 < (wk c cl').length := by
  have h1 := hv.hz
  have h2 := hv.sw
  have h3 := hv.wi
  obtain ⟨k, hk, g⟩ := wk_pos.1 hp
  have hp := Nat.pow_le_pow_right (n := 2) (show 0 < 2 by omega) (show k ≤ 8 by omega)
  exact wk_pos.2 ⟨k, hk, cn_mono hc hv (hz := 2 ^ k) (hz' := 2 ^ k) (cl := cl) (cl' := cl') (op := 0) (op' := 0) (by omega) (by omega) (by omega) (by omega) (by omega) (by omega) (sub_refl _) h (sub_refl _) 1000 0 (by omega) (by omega) g⟩
theorem pairs_len : (pairs c).length ≤ 144 := by
  have h2 := hv.sw
  have : ∀ n, ((List.range n).flatMap (pairsAt c)).length ≤ n * c.Switches.length := by
    intro n
    induction n with
    | zero => simp
    | succ n ih =>
      rw [List.range_succ, List.flatMap_append, List.length_append, Nat.succ_mul]
      have := pairsAt_len c n
      simp only [List.flatMap_cons, List.flatMap_nil, List.append_nil]
      omega
  have h := this c.Switches.length
  have : c.Switches.length * c.Switches.length ≤ 12 * 12 := Nat.mul_le_mul (by omega) (by omega)
  unfold pairs
  omega
end
theorem pairL {l : List (Int × Int)} {a b e : Int} (hl : l.length ≤ maxLen) : loopM (l03_CircuitTwo_L13 a b (l, e)) (false, 0) = some (decide ((a, b) ∈ l)) := by
  have h := loop_list (f := l03_CircuitTwo_L13 a b (l, e)) l (fun (s : Bool) k => (s, k)) (fun r s => s || decide ((a, b) ∈ r)) (fun _ _ => True)
    (fun s k x r hd hg hk hm _ => by
      unfold l03_CircuitTwo_L13
      simp only [hk, decide_true, if_true, hg, Option.bind_some, wr_len hk hl]
      refine .inl ⟨s || (decide (x.1 = a) && decide (x.2 = b)), ?_, trivial, ?_⟩
      · cases s <;> simp
      · have : ((a, b) ∈ x :: r) ↔ (x.1 = a ∧ x.2 = b) ∨ (a, b) ∈ r := by
          rw [List.mem_cons]
          obtain ⟨x1, x2⟩ := x
          simp only [Prod.mk.injEq]
          constructor
          · rintro (⟨h1, h2⟩ | h)
            · exact .inl ⟨h1.symm, h2.symm⟩
            · exact .inr h
          · rintro (⟨h1, h2⟩ | h)
            · exact .inl ⟨h1.symm, h2.symm⟩
            · exact .inr h
        simp only [this, Bool.decide_or, Bool.decide_and, Bool.or_assoc])
    (fun s _ => by unfold l03_CircuitTwo_L13; simp) (s := false) trivial
  rw [h]; simp

theorem Two_plain (hw : l03_works = some true) (c : Circuit) (a b : Int) (hc : OkC c) (_ : In64 a) (_ : In64 b) : l03_CircuitTwo c a b = some true := by
  unfold l03_CircuitTwo
  rcases Far_cases hc with e | ⟨e, hl⟩
  · simp [e, hw]
  rcases Check_cases hc hl with ⟨k1, k2, hv⟩ | ⟨k1, k2⟩
  rotate_left
  · simp [e, k2, hw]
  have h1 := hv.hz
  have h2 := hv.sw
  have h3 := hv.wi
  simp only [e, k2, Option.bind_some, Bool.false_eq_true, if_false, hw]
  by_cases g0 : 0 ≤ a ∧ a < b ∧ b < (c.Switches.length : Int)
  rotate_left
  · have : ((decide (a < 0) || decide (b ≤ a)) || decide ((c.Switches.length : Int) ≤ b)) = true := by simp only [Bool.or_eq_true, decide_eq_true_eq]; omega
    simp only [not_true_eq_false, decide_false, Bool.false_or, this, if_true]
  have g1 : ((decide (a < 0) || decide (b ≤ a)) || decide ((c.Switches.length : Int) ≤ b)) = false := by simp only [Bool.or_eq_false_iff, decide_eq_false_iff_not]; omega
  obtain ⟨i, rfl⟩ : ∃ i : Nat, a = i := ⟨a.toNat, by omega⟩
  obtain ⟨k, rfl⟩ : ∃ i : Nat, b = i := ⟨b.toNat, by omega⟩
  have li : 2 ^ i < 2 ^ c.Switches.length := Nat.pow_lt_pow_right (by omega) (by omega)
  have lk : 2 ^ k < 2 ^ c.Switches.length := Nat.pow_lt_pow_right (by omega) (by omega)
  have lor := Nat.or_lt_two_pow li lk
  have r2 : inR ((2 ^ i ||| 2 ^ k : Nat) : Int) c.Switches.length = true := inR_iff.2 ⟨_, rfl, lor⟩
  have l1 := pow12 li (by omega)
  have l2 := pow12 lk (by omega)
  have l3 := pow12 lor (by omega)
  simp only [not_true_eq_false, decide_false, Bool.false_or, g1, Bool.false_eq_true, if_false, u64_nat (y := i) (by omega), shl_nat (y := i) (by omega), u64_nat (y := k) (by omega), shl_nat (y := k) (by omega), Option.bind_some,
    bor_nat (show 2 ^ i < 9223372036854775808 by omega) (show 2 ^ k < 9223372036854775808 by omega), Weak_val hc hv k1, Critical_val hc hv k1, Pairs_val hc hv k1, r2, if_true, Bool.or_self,
    pairL (l := pairs c) (show (pairs c).length ≤ maxLen from Nat.le_trans (pairs_len hc hv) (by decide)), l03_CircuitTwo_j30, has_eq (l := crit c) (crit_len hc hv), hw, mem_crit, mem_pairs]
  have m1 := wk_mono hc hv (sub_or_l (2 ^ i) (2 ^ k)) l1 l3
  have m2 := wk_mono hc hv (sub_or_r (2 ^ i) (2 ^ k)) l2 l3
  have e1 : i < k := by omega
  have e2 : k < c.Switches.length := by omega
  have e3 : i < c.Switches.length := by omega
  simp only [e1, e2, e3, true_and, pq]
  have c1 : isCrit c i = true → 0 < (wk c ((2 ^ i ||| 2 ^ k : Nat) : Int)).length := fun h => m1 (by unfold isCrit at h; simp only [decide_eq_true_eq] at h; omega)
  have c2 : isCrit c k = true → 0 < (wk c ((2 ^ i ||| 2 ^ k : Nat) : Int)).length := fun h => m2 (by unfold isCrit at h; simp only [decide_eq_true_eq] at h; omega)
  have e4 : decide ((0 : Int) < ((wk c ((2 ^ i ||| 2 ^ k : Nat) : Int)).length : Int)) = decide (0 < (wk c ((2 ^ i ||| 2 ^ k : Nat) : Int)).length) := by congr 1; simp only [eq_iff_iff]; omega
  rw [e4]
  by_cases p : 0 < (wk c ((2 ^ i ||| 2 ^ k : Nat) : Int)).length
  · simp only [p, decide_true]
    cases isCrit c i <;> cases isCrit c k <;> rfl
  · have n1 : isCrit c i = false := by cases h : isCrit c i; rfl; exact absurd (c1 h) p
    have n2 : isCrit c k = false := by cases h : isCrit c k; rfl; exact absurd (c2 h) p
    simp only [p, n1, n2, decide_false]; rfl
end Go.Nw.CM
