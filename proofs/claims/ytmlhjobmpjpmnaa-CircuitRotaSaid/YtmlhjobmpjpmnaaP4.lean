/- The plain laws of the plans and of the rota. -/
import Derived.Test.YtmlhjobmpjpmnaaP3
set_option linter.all false
set_option linter.unusedVariables false
set_option linter.unusedSimpArgs false
set_option linter.unusedSectionVars false
namespace Go.Nw.CM
def okL (c : Circuit) (l : List Trial) (g : Nat) (list : List Int) : Bool := (gapR (list.map (setN (eachI c l))) g c.Switches.length).2.2
def better (o : Option (List Int)) (list : List Int) : Bool := match o with | none => true | some b => decide (tried list < tried b)
def stepB (c : Circuit) (l : List Trial) (g n x : Nat) (o : Option (List Int)) : Option (List Int) := if better o (listOf (l.length + 1) n x) && okL c l g (listOf (l.length + 1) n x) then some (listOf (l.length + 1) n x) else o
def bestOf (c : Circuit) (l : List Trial) (g n : Nat) : Nat → Option (List Int)
  | 0 => none
  | k + 1 => stepB c l g n k (bestOf c l g n k)
def fewestOf (n : Nat) (o : Option (List Int)) : Nat := match o with | none => n + 1 | some b => tried b
theorem bestOf_len {c : Circuit} {l : List Trial} {g n : Nat} : ∀ {k : Nat} {b : List Int}, bestOf c l g n k = some b → b.length = n
  | 0, b, h => by cases h
  | k + 1, b, h => by
    simp only [bestOf, stepB] at h
    split at h
    · cases h; exact listOf_len _ _ _
    · exact bestOf_len h
theorem bestOf_spec {c : Circuit} {l : List Trial} {g n : Nat} : ∀ {k : Nat}, (bestOf c l g n k = none → ∀ x, x < k → okL c l g (listOf (l.length + 1) n x) = false) ∧
    ∀ b, bestOf c l g n k = some b → okL c l g b = true ∧ InRange l.length b ∧ ∀ x, x < k → okL c l g (listOf (l.length + 1) n x) = true → tried b ≤ tried (listOf (l.length + 1) n x)
  | 0 => ⟨fun _ x h => by omega, fun b h => by cases h⟩
  | k + 1 => by
    obtain ⟨h1, h2⟩ := bestOf_spec (c := c) (l := l) (g := g) (n := n) (k := k)
    simp only [bestOf, stepB]
    generalize bestOf c l g n k = o at *
    cases hs : better o (listOf (l.length + 1) n k) && okL c l g (listOf (l.length + 1) n k) with
    | true =>
      simp only [Bool.and_eq_true] at hs
      refine ⟨fun h => by simp at h, fun b h => ?_⟩
      simp only [if_true, Option.some.injEq] at h
      subst h
      refine ⟨hs.2, listOf_range, fun x hx hok => ?_⟩
      by_cases e : x = k
      · rw [e]; exact Nat.le_refl _
      · cases o with
        | none => rw [h1 rfl x (by omega)] at hok; cases hok
        | some b =>
          have := (h2 b rfl).2.2 x (by omega) hok
          have hb := hs.1
          simp only [better, decide_eq_true_eq] at hb
          omega
    | false =>
      simp only [Bool.false_eq_true, if_false]
      refine ⟨fun h x hx => ?_, fun b h => ?_⟩
      · by_cases e : x = k
        · subst e; rw [h] at hs; simpa [better] using hs
        · exact h1 h x (by omega)
      · obtain ⟨g1, g2, g3⟩ := h2 b h
        refine ⟨g1, g2, fun x hx hok => ?_⟩
        by_cases e : x = k
        · subst e
          rw [h, hok, Bool.and_true] at hs
          simp only [better, decide_eq_false_iff_not] at hs
          omega
        · exact g3 x (by omega) hok
theorem clone_val {l : List Int} (h0 : l ≠ []) (hl : l.length ≤ 1000) : slices_Clone___int_int_ l = some l := by
  cases l with
  | nil => exact absurd rfl h0
  | cons a l =>
    unfold slices_Clone___int_int_
    simp only [nilq, Option.bind_some, Bool.false_eq_true, if_false]
    rw [ap_ok (by simp only [List.length_nil]; omega)]; rfl

section
variable {c : Circuit} (hc : OkC c) (hv : Valid c) {l : List Trial} (hl : l.length ≤ 12) (ht : ∀ t ∈ l, okTrial c t = true) {n g : Nat} (hn1 : 1 ≤ n) (hn : n ≤ 60) (hg : g ≤ 60)
include hv hl hn1 hn hg
theorem progL {w : Int} {cnt : Nat} (hcnt : cnt ≤ 20000) {ls0 ss0 : List Int} (h1 : ls0.length = n) (h2 : ss0.length = n) :
    loopM (circuit_Rota_L36 c l (n : Int) (g : Int) (cnt : Int) (eachI c l, w)) ([], true, (n : Int) + 1, ls0, ss0, 0) = some ((bestOf c l g n cnt).getD [], (bestOf c l g n cnt).isNone) := by
  have hs12 := hv.sw.2
  have he := sets_each (c := c) (l := l) hs12
  have hel : (eachI c l).length = l.length := by simp [eachI]
  obtain ⟨r, e, rfl⟩ := loop_inv (f := circuit_Rota_L36 c l (n : Int) (g : Int) (cnt : Int) (eachI c l, w)) cnt (fun (s : Option (List Int) × List Int × List Int) k => (s.1.getD [], s.1.isNone, ((fewestOf n s.1 : Nat) : Int), s.2.1, s.2.2, k))
    (fun k s => s.1 = bestOf c l g n k ∧ s.2.1.length = n ∧ s.2.2.length = n) (fun r => r = ((bestOf c l g n cnt).getD [], (bestOf c l g n cnt).isNone))
    (fun s k hk hi => by
      obtain ⟨o, s1, s2⟩ := s
      obtain ⟨i1, i2, i3⟩ := hi
      simp only at i1 i2 i3
      have e1 : (k : Int) < (cnt : Int) := by omega
      refine .inl ⟨(stepB c l g n k o, listOf (l.length + 1) n k, (listOf (l.length + 1) n k).map (setN (eachI c l))), ?_, by simp only [bestOf, i1], listOf_len _ _ _, by simp [listOf_len]⟩
      unfold circuit_Rota_L36
      simp only [e1, decide_true, if_true]
      rw [wr_id (n := (n : Int) - 1) (by omega) (by omega), L30_val (b := l.length + 1) (n := n) (by omega) (by omega) hn rfl he hel (by omega) i2 i3]
      simp only [Option.bind_some, circuit_Rota_j28]
      have hlen := listOf_len (l.length + 1) n k
      have htl := tried_le (listOf (l.length + 1) n k)
      have hb : decide (((fewestOf n o : Nat) : Int) ≤ ((tried (listOf (l.length + 1) n k) : Nat) : Int)) = !better o (listOf (l.length + 1) n k) := by
        cases o with
        | none =>
          have : ¬ ((n + 1 : Nat) : Int) ≤ ((tried (listOf (l.length + 1) n k) : Nat) : Int) := by omega
          simp only [fewestOf, better, this, decide_false, Bool.not_true]
        | some b =>
          simp only [fewestOf, better]
          by_cases z : tried (listOf (l.length + 1) n k) < tried b
          · have : ¬ ((tried b : Nat) : Int) ≤ ((tried (listOf (l.length + 1) n k) : Nat) : Int) := by omega
            simp only [z, this, decide_true, decide_false, Bool.not_true]
          · have : ((tried b : Nat) : Int) ≤ ((tried (listOf (l.length + 1) n k) : Nat) : Int) := by omega
            simp only [z, this, decide_true, decide_false, Bool.not_false]
      rw [hb]
      have hset := sets_as he (by rw [hel]; exact listOf_range (m := l.length) (n := n) (x := k))
      have hsl : ((listOf (l.length + 1) n k).map (setN (eachI c l))).length = n := by simp [hlen]
      rw [gap_val hset (by omega) (by omega) hg hs12]
      simp only [Option.bind_some, circuit_Rota_j26, wr_k hk (show cnt < 4611686018427387904 by omega)]
      have hok : okL c l g (listOf (l.length + 1) n k) = (gapR ((listOf (l.length + 1) n k).map (setN (eachI c l))) g c.Switches.length).2.2 := rfl
      rw [← hok, clone_val (by intro h; rw [h] at hlen; simp at hlen; omega) (by omega)]
      unfold stepB
      cases better o (listOf (l.length + 1) n k) <;> cases okL c l g (listOf (l.length + 1) n k) <;> rfl)
    (fun s hi => by
      obtain ⟨o, s1, s2⟩ := s
      refine ⟨_, ?_, rfl⟩
      have := hi.1
      simp only at this
      unfold circuit_Rota_L36
      simp only [Int.lt_irrefl, decide_false, Bool.false_eq_true, if_false, this])
    (s := (none, ls0, ss0)) 0 (Nat.zero_le _) ⟨rfl, h1, h2⟩
  exact e
omit hv hl in
theorem asRota_ok {list : List Int} {m : Nat} (hm : m ≤ 12) (h1 : list.length = n) (hr : InRange m list) : OkRota (asRota list (g : Int)) := by
  have hml : (1000 : Nat) ≤ maxLen := by decide
  refine ⟨⟨by simp only [asRota, List.length_map]; omega, fun q hq => ?_⟩, ?_⟩
  · obtain ⟨x, hx, rfl⟩ := List.mem_map.1 hq
    obtain ⟨r1, r2⟩ := hr x hx
    unfold oneN
    split
    · refine ⟨by simp only [List.length_cons, List.length_nil]; omega, fun y hy => ?_⟩
      rw [List.mem_singleton.1 hy]
      unfold In64; omega
    · exact ⟨Nat.zero_le _, fun y hy => by cases hy⟩
  · unfold In64 asRota; simp only; omega
omit hv hl in
theorem asRota_nights {list each : List Int} {m : Nat} (he : each.length = m) (hr : InRange m list) : ∀ q ∈ (asRota list (g : Int)).Nights, ∀ t ∈ q, 0 ≤ t ∧ t < each.length := fun q hq t ht => by
  obtain ⟨x, hx, rfl⟩ := List.mem_map.1 hq
  obtain ⟨r1, r2⟩ := hr x hx
  unfold oneN at ht
  split at ht
  · rw [List.mem_singleton.1 ht]; omega
  · cases ht
theorem rgap_val {list : List Int} (h1 : list.length = n) (hr : InRange l.length list) : ∃ q, r03_gap c (eachI c l) (asRota list (g : Int)) = some q ∧ q.2.2 = okL c l g list := by
  have hs12 := hv.sw.2
  have he := sets_each (c := c) (l := l) hs12
  have hel : (eachI c l).length = l.length := by simp [eachI]
  have hro := asRota_ok hn1 hn hg hl h1 hr
  have hrn := asRota_nights hn1 hn hg hel hr
  have hnl : (asRota list (g : Int)).Nights.length = n := by simp [asRota, h1]
  have hd := dones_as (g := (g : Int)) he (by rw [hel]; exact hr)
  have hset := sets_as he (by rw [hel]; exact hr)
  have hsl : (list.map (setN (eachI c l))).length = n := by simp [h1]
  refine ⟨gapR (list.map (setN (eachI c l))) g c.Switches.length, ?_, rfl⟩
  unfold r03_gap
  rw [mks_ok (by omega) (by omega) (by omega)]
  simp only [Option.bind_some, Int.toNat_natCast]
  rw [L11_val he hro hrn (by omega), Option.bind_some, hd]
  exact rgapj_val hset (by omega) (by omega) hg (by omega) rfl hs12
include hc ht in
theorem refL {cnt : Nat} (hcnt : cnt ≤ 20000) :
    loopM (r03_Rota_L31 c l (n : Int) (g : Int) (cnt : Int) (eachI c l)) (none, 0) = some (bestOf c l g n cnt) := by
  obtain ⟨r, e, rfl⟩ := loop_inv (f := r03_Rota_L31 c l (n : Int) (g : Int) (cnt : Int) (eachI c l)) cnt (fun (s : Option (List Int)) k => (s, k))
    (fun k s => s = bestOf c l g n k) (fun r => r = bestOf c l g n cnt)
    (fun o k hk hi => by
      have e1 : (k : Int) < (cnt : Int) := by omega
      refine .inl ⟨stepB c l g n k o, ?_, by simp only [bestOf, hi]⟩
      have hbl : ∀ b, o = some b → b.length = n := fun b h => bestOf_len (by rw [← hi, h])
      clear hi
      unfold r03_Rota_L31
      simp only [e1, decide_true, if_true]
      rw [mks_ok (by omega) (by omega) (by omega)]
      simp only [Option.bind_some, Int.toNat_natCast]
      rw [wr_id (n := (n : Int) - 1) (by omega) (by omega), L25_val' (b := l.length + 1) (n := n) (by omega) (by omega) hn rfl (by omega) (by simp)]
      have hlen := listOf_len (l.length + 1) n k
      obtain ⟨q, hq1, hq2⟩ := rgap_val hv hl hn1 hn hg hlen (listOf_range (m := l.length) (n := n) (x := k))
      simp only [Option.bind_some, r03_Rota_j26, r03_Rota_j22, wr_k hk (show cnt < 4611686018427387904 by omega), AsRota_val (list := listOf (l.length + 1) n k) (by omega), hq1, hq2]
      unfold stepB
      cases o with
      | none =>
        simp only [nilqO, Option.bind_some, Bool.not_true, Bool.false_eq_true, if_false, better, Bool.true_and]
        cases okL c l g (listOf (l.length + 1) n k) <;> rfl
      | some b =>
        have hbl := hbl b rfl
        have hne : nilqO (some b) = some false := by
          cases b with
          | nil => simp at hbl; omega
          | cons a b => rfl
        simp only [hne, Option.bind_some, Bool.not_false, if_true, tried_val (list := listOf (l.length + 1) n k) (by omega), tried_val (list := b) (by omega), Option.getD_some]
        have hb : decide (((tried b : Nat) : Int) ≤ ((tried (listOf (l.length + 1) n k) : Nat) : Int)) = !better (some b) (listOf (l.length + 1) n k) := by
          simp only [better]
          by_cases z : tried (listOf (l.length + 1) n k) < tried b
          · have : ¬ ((tried b : Nat) : Int) ≤ ((tried (listOf (l.length + 1) n k) : Nat) : Int) := by omega
            simp only [z, this, decide_true, decide_false, Bool.not_true]
          · have : ((tried b : Nat) : Int) ≤ ((tried (listOf (l.length + 1) n k) : Nat) : Int) := by omega
            simp only [z, this, decide_true, decide_false, Bool.not_false]
        rw [hb]
        cases better (some b) (listOf (l.length + 1) n k) <;> cases okL c l g (listOf (l.length + 1) n k) <;> rfl)
    (fun o hi => by
      refine ⟨_, ?_, hi⟩
      unfold r03_Rota_L31
      simp only [Int.lt_irrefl, decide_false, Bool.false_eq_true, if_false])
    (s := none) 0 (Nat.zero_le _) rfl
  exact e
end

theorem prodL {l : List Trial} (hl : l.length ≤ 12) {n : Nat} (hn : n ≤ 60) : ∃ r, loopM (circuit_Rota_L13 l (n : Int)) (1, 0) = some r ∧ loopM (r03_Rota_L13 l (n : Int)) (1, 0) = some r ∧ (r = .inr ([], 2) ∨ (r = .inl (((l.length + 1) ^ n : Nat) : Int) ∧ (l.length + 1) ^ n ≤ 20000)) := by
  have hfun : circuit_Rota_L13 l (n : Int) = r03_Rota_L13 l (n : Int) := by funext ⟨a, b⟩; rfl
  obtain ⟨r, e, hP⟩ := loop_inv (f := circuit_Rota_L13 l (n : Int)) n (fun (s : Nat) k => ((s : Int), k)) (fun k s => s = (l.length + 1) ^ k ∧ s ≤ 20000) (fun r => r = .inr ([], 2) ∨ (r = .inl (((l.length + 1) ^ n : Nat) : Int) ∧ (l.length + 1) ^ n ≤ 20000))
    (fun s k hk hi => by
      obtain ⟨rfl, h20⟩ := hi
      have e1 : (k : Int) < (n : Int) := by omega
      have hm : (l.length + 1) ^ k * (l.length + 1) ≤ 20000 * 13 := Nat.mul_le_mul h20 (by omega)
      have e2 : wr ((((l.length + 1) ^ k : Nat) : Int) * wr ((l.length : Int) + 1)) = (((l.length + 1) ^ (k + 1) : Nat) : Int) := by
        rw [wr_id (n := (l.length : Int) + 1) (by omega) (by omega), Nat.pow_succ]
        have : (((l.length + 1) ^ k : Nat) : Int) * ((l.length : Int) + 1) = (((l.length + 1) ^ k * (l.length + 1) : Nat) : Int) := by push_cast; rfl
        rw [this, wr_id (by omega) (by omega)]
      unfold circuit_Rota_L13
      simp only [e1, decide_true, if_true, e2, wr_k hk (show n < 4611686018427387904 by omega)]
      by_cases g : (20000 : Int) < (((l.length + 1) ^ (k + 1) : Nat) : Int)
      · simp only [g, decide_true, if_true]
        exact .inr ⟨_, rfl, .inl rfl⟩
      · simp only [g, decide_false, Bool.false_eq_true, if_false]
        exact .inl ⟨_, rfl, rfl, by omega⟩)
    (fun s hi => ⟨.inl (s : Int), by unfold circuit_Rota_L13; simp only [Int.lt_irrefl, decide_false, Bool.false_eq_true, if_false], .inr ⟨by rw [hi.1], by rw [← hi.1]; exact hi.2⟩⟩)
    (s := 1) 0 (Nat.zero_le _) ⟨by simp, by omega⟩
  have e' : loopM (circuit_Rota_L13 l (n : Int)) (1, 0) = some r := e
  exact ⟨r, e', by rw [← hfun]; exact e', hP⟩

def outB (o : Option (List Int)) : List Int × Int := match o with | none => ([], 3) | some b => (b, 0)
theorem Rota_cases {c : Circuit} (hc : OkC c) (hv : Valid c) (hk : circuit_Check c = some 0) (hk2 : r03_Check c = some 0) {l : List Trial} (hl : OkTrials l) (nights many : Int) :
    ∃ x, circuit_Rota c l nights many = some x ∧ r03_Rota c l nights many = some x ∧
      ((x.1 = [] ∧ x.2 ≠ 0 ∧ (x.2 = 2 ∨ chk c l ≠ 0 ∨ ¬ ((1 ≤ nights ∧ nights ≤ 60) ∧ 1 ≤ many ∧ many ≤ 60))) ∨ (chk c l = 0 ∧ ∃ n g : Nat, nights = n ∧ many = g ∧ 1 ≤ n ∧ n ≤ 60 ∧ 1 ≤ g ∧ g ≤ 60 ∧ (l.length + 1) ^ n ≤ 20000 ∧ x = outB (bestOf c l g n ((l.length + 1) ^ n)))) := by
  unfold circuit_Rota r03_Rota
  simp only [check_val hc hv hk hl, CheckTrials_val hc hv hk2 hl, Option.bind_some]
  by_cases g0 : chk c l = 0
  rotate_left
  · simp only [g0, not_false_eq_true, decide_true, if_true]
    exact ⟨_, rfl, rfl, .inl ⟨rfl, g0, .inr (.inl (by simp [g0]))⟩⟩
  obtain ⟨l12, ht⟩ := chk_zero g0
  simp only [g0, not_true_eq_false, decide_false, Bool.false_eq_true, if_false]
  by_cases g1 : (1 ≤ nights ∧ nights ≤ 60) ∧ 1 ≤ many ∧ many ≤ 60
  rotate_left
  · have e1 : (((decide (nights < 1) || decide (60 < nights)) || decide (many < 1)) || decide (60 < many)) = true := by simp only [Bool.or_eq_true, decide_eq_true_eq]; omega
    have e2 : (!(r03_within nights 1 60) || !(r03_within many 1 60)) = true := by
      simp only [r03_within, Bool.or_eq_true, Bool.not_eq_true', Bool.and_eq_false_iff, decide_eq_false_iff_not]; omega
    simp only [e1, e2, if_true]
    refine ⟨([], 1), ?_, ?_, .inl ⟨rfl, by decide, .inr (.inr g1)⟩⟩ <;> rfl
  have e1 : (((decide (nights < 1) || decide (60 < nights)) || decide (many < 1)) || decide (60 < many)) = false := by simp only [Bool.or_eq_false_iff, decide_eq_false_iff_not]; omega
  have e2 : (!(r03_within nights 1 60) || !(r03_within many 1 60)) = false := by
    simp only [r03_within, Bool.or_eq_false_iff, Bool.not_eq_false', Bool.and_eq_true, decide_eq_true_eq]; omega
  obtain ⟨n, rfl⟩ : ∃ n : Nat, nights = n := ⟨nights.toNat, by omega⟩
  obtain ⟨g, rfl⟩ : ∃ n : Nat, many = n := ⟨many.toNat, by omega⟩
  obtain ⟨r, p1, p2, p3⟩ := prodL l12 (n := n) (by omega)
  simp only [e1, e2, Bool.false_eq_true, if_false, p1, p2, Option.bind_some]
  rcases p3 with rfl | ⟨rfl, h20⟩
  · refine ⟨([], 2), ?_, ?_, .inl ⟨rfl, by decide, .inl rfl⟩⟩ <;> rfl
  · obtain ⟨w, hall⟩ := all_val hc hv l12 ht
    have hP := progL (c := c) hv l12 (n := n) (g := g) (by omega) (by omega) (by omega) (w := w) h20 (ls0 := List.replicate n 0) (ss0 := List.replicate n 0) (by simp) (by simp)
    have hR := refL (c := c) hc hv l12 ht (n := n) (g := g) (by omega) (by omega) (by omega) h20
    simp only [circuit_Rota_j11, r03_Rota_j9, hall, every_val hc hv l12 ht, Option.bind_some]
    rw [mks_ok (by omega) (by omega) (by omega)]
    simp only [Option.bind_some, Int.toNat_natCast]
    rw [wr_id (n := (n : Int) + 1) (by omega) (by omega), hP, hR]
    simp only [Option.bind_some, circuit_Rota_j19, r03_Rota_j13]
    refine ⟨outB (bestOf c l g n ((l.length + 1) ^ n)), ?_, ?_, .inr ⟨by trivial, n, g, rfl, rfl, by omega, by omega, by omega, by omega, h20, rfl⟩⟩
    · cases bestOf c l g n ((l.length + 1) ^ n) <;> rfl
    · cases hb : bestOf c l g n ((l.length + 1) ^ n) with
      | none => rfl
      | some b =>
        have hbl := bestOf_len hb
        cases b with
        | nil => simp at hbl; omega
        | cons a b => rfl
theorem outB_len {c : Circuit} {l : List Trial} {g n k : Nat} (hn : n ≤ 60) : (outB (bestOf c l g n k)).1.length ≤ maxLen := by
  have : (60 : Nat) ≤ maxLen := by decide
  cases hb : bestOf c l g n k with
  | none => exact nil_len
  | some b => have := bestOf_len hb; simp only [outB]; omega
theorem Plans_plain (hw : l03_works = some true) (c : Circuit) (l : List Trial) (w_ : l03_Wish) (hc : OkC c) (hl : OkTrials l) (_ : OkWish w_) : l03_CircuitPlans c l w_ = some true := by
  unfold l03_CircuitPlans
  rcases Far_cases hc with e | ⟨e, hf⟩
  · simp [e, hw]
  simp only [e, Option.bind_some, Bool.false_or, hw]
  by_cases g : (20 : Int) < (l.length : Int)
  · simp [g]
  simp only [g, decide_false, Bool.false_eq_true, if_false]
  rcases Check_cases hc hf with ⟨k1, k2, hv⟩ | ⟨k1, k2⟩
  · obtain ⟨x, x1, x2, x3⟩ := Rota_cases hc hv k1 k2 hl w_.Nights w_.Gap
    have hlen : x.1.length ≤ maxLen := by
      rcases x3 with ⟨h, _⟩ | ⟨_, n, g, _, _, _, hn, _, _, _, rfl⟩
      · rw [h]; exact nil_len
      · exact outB_len hn
    simp [x1, x2, sameInts_self hlen]
  · have a1 : circuit_check c l = some 30 := by unfold circuit_check; simp [k1]
    have a2 : circuit_Rota c l w_.Nights w_.Gap = some ([], 30) := by unfold circuit_Rota; simp [a1]
    have a4 : r03_CheckTrials c l = some 30 := by unfold r03_CheckTrials; simp [k2]
    have a5 : r03_Rota c l w_.Nights w_.Gap = some ([], 30) := by unfold r03_Rota; simp [a4]
    simp [a2, a5, sameInts_self (nil_len (α := Int))]

/- the law of the rota -/
section
variable {c : Circuit} (hc : OkC c) (hv : Valid c) (hk : circuit_Check c = some 0) {l : List Trial} (hl : OkTrials l) (h0 : chk c l = 0) {n g : Nat} (hn1 : 1 ≤ n) (hn : n ≤ 60) (hg1 : 1 ≤ g) (hg : g ≤ 60)
include hc hv hk hl h0 hn1 hn hg1 hg
theorem check_as {list : List Int} (h1 : list.length = n) (hr : InRange l.length list) : ∃ a b, circuit_CheckRota c l (asRota list (g : Int)) = some (a, b, okL c l g list, 0) := by
  obtain ⟨l12, _⟩ := chk_zero h0
  have hs12 := hv.sw.2
  have he := sets_each (c := c) (l := l) hs12
  have hel : (eachI c l).length = l.length := by simp [eachI]
  have hro := asRota_ok hn1 hn hg l12 h1 hr
  have hd := dones_as (g := (g : Int)) he (by rw [hel]; exact hr)
  have hV : VRota l (asRota list (g : Int)) := by
    refine ⟨by simp [asRota]; omega, by simp [asRota]; omega, by simp only [asRota]; omega, by simp only [asRota]; omega, fun q hq => ?_⟩
    obtain ⟨x, hx, rfl⟩ := List.mem_map.1 hq
    obtain ⟨r1, r2⟩ := hr x hx
    unfold oneN
    split
    · rename_i hx0; simp [asc, hx0, r2]
    · rfl
  rw [CheckRota_val hc hv hk hl hro]
  unfold checkRotaR rotaV
  rw [if_pos h0, if_pos (okRota_iff.2 hV), hd]
  exact ⟨_, _, rfl⟩
end
theorem L13_other {k : l03_Kept} {other : List Int} (hlo : other.length ≤ 1000) : loopM (l03_CircuitRota_L13 k other) (true, 0, 0) = some (other.all (fun x => decide (-1 ≤ x) && decide (x < (k.Trials.length : Int))), ((tried other : Nat) : Int)) := by
  have h := loop_list (f := l03_CircuitRota_L13 k other) other (fun (s : Bool × Nat) j => (s.1, (s.2 : Int), j)) (fun r s => (s.1 && r.all (fun x => decide (-1 ≤ x) && decide (x < (k.Trials.length : Int))), ((s.2 + tried r : Nat) : Int))) (fun j s => s.2 ≤ j)
    (fun s j x r hd hg hj hm hi => by
      obtain ⟨v, m⟩ := s
      simp only at hi
      unfold l03_CircuitRota_L13
      simp only [hj, decide_true, if_true, hg, Option.bind_some, l03_CircuitRota_j74, wr_len hj (show other.length ≤ maxLen from Nat.le_trans hlo (by decide))]
      rw [wr_id (n := (m : Int) + 1) (by omega) (by omega)]
      refine .inl ⟨(v && (decide (-1 ≤ x) && decide (x < (k.Trials.length : Int))), if 0 ≤ x then m + 1 else m), ?_, ?_, ?_⟩
      · cases v with
        | false => by_cases h0 : 0 ≤ x <;> simp [h0]
        | true => by_cases h1 : -1 ≤ x <;> by_cases h0 : 0 ≤ x <;> simp [h0, h1]
      · simp only; split <;> omega
      · simp only [List.all_cons, tried_cons, Bool.and_assoc]
        congr 2
        split <;> omega)
    (fun s _ => by unfold l03_CircuitRota_L13; simp [tried]) (s := (true, 0)) (Nat.le_refl _)
  simpa using h
theorem L31_rota {k : l03_Kept} {l : List Int} {e : Int} (hlo : l.length ≤ 1000) (hr : InRange k.Trials.length l) : loopM (l03_CircuitRota_L31 k (l, e)) (0, 0) = some (.inl ((tried l : Nat) : Int)) := by
  have h := loop_list (f := l03_CircuitRota_L31 k (l, e)) l (fun (s : Nat) j => ((s : Int), j)) (fun r s => Sum.inl ((s + tried r : Nat) : Int)) (fun j s => s ≤ j)
    (fun s j x r hd hg hj hm hi => by
      obtain ⟨r1, r2⟩ := hr x hm
      unfold l03_CircuitRota_L31
      have e1 : (decide (x < -1) || decide ((k.Trials.length : Int) ≤ x)) = false := by simp only [Bool.or_eq_false_iff, decide_eq_false_iff_not]; omega
      simp only [hj, decide_true, if_true, hg, Option.bind_some, e1, Bool.false_eq_true, if_false, l03_CircuitRota_j53, wr_len hj (show l.length ≤ maxLen from Nat.le_trans hlo (by decide))]
      rw [wr_id (n := (s : Int) + 1) (by omega) (by omega), tried_cons]
      by_cases h0 : 0 ≤ x
      · refine .inl ⟨s + 1, by simp [h0], by omega, ?_⟩
        simp only [h0, if_true]; congr 2; omega
      · refine .inl ⟨s, by simp [h0], by omega, ?_⟩
        simp only [h0, if_false]; congr 2; omega)
    (fun s _ => by unfold l03_CircuitRota_L31; simp [tried]) (s := 0) (Nat.le_refl _)
  simpa using h
theorem Rota_plain (hw : l03_works = some true) (c : Circuit) (k : l03_Kept) (other : List Int) (hc : OkC c) (hk : OkKept k) (_ : OkInts other) : l03_CircuitRota c k other = some true := by
  unfold l03_CircuitRota
  obtain ⟨hl, hr⟩ := hk
  rcases Far_cases hc with e | ⟨e, hf⟩
  · simp [e, hw]
  rcases Check_cases hc hf with ⟨k1, k2, hv⟩ | ⟨k1, k2⟩
  rotate_left
  · have a4 : r03_CheckTrials c k.Trials = some 30 := by unfold r03_CheckTrials; simp [k2]
    simp [e, a4, hw]
  simp only [e, Option.bind_some, Bool.false_eq_true, if_false, CheckTrials_val hc hv k2 hl, hw]
  by_cases g0 : chk c k.Trials = 0
  rotate_left
  · simp [g0]
  by_cases g1 : (1 ≤ other.length ∧ other.length ≤ 6) ∧ 1 ≤ k.Rota.Gap ∧ k.Rota.Gap ≤ 60
  rotate_left
  · have : ((((decide (¬chk c k.Trials = 0) || decide ((other.length : Int) = 0)) || decide ((6 : Int) < (other.length : Int))) || decide (k.Rota.Gap < 1)) || decide (60 < k.Rota.Gap)) = true := by
      simp only [Bool.or_eq_true, decide_eq_true_eq]; omega
    simp only [this, if_true]
  have e1 : ((((decide (¬chk c k.Trials = 0) || decide ((other.length : Int) = 0)) || decide ((6 : Int) < (other.length : Int))) || decide (k.Rota.Gap < 1)) || decide (60 < k.Rota.Gap)) = false := by
    simp only [Bool.or_eq_false_iff, decide_eq_false_iff_not]; omega
  obtain ⟨x, x1, _, x3⟩ := Rota_cases hc hv k1 k2 hl (other.length : Int) k.Rota.Gap
  simp only [e1, Bool.false_eq_true, if_false, x1, Option.bind_some]
  by_cases g2 : x.2 = 2
  · simp only [g2, decide_true, if_true]
  simp only [g2, decide_false, Bool.false_eq_true, if_false]
  rcases x3 with ⟨_, _, h⟩ | ⟨_, n, g, hn, hg, n1, n60, g1', g60, h20, rfl⟩
  · rcases h with h | h | h
    · exact absurd h g2
    · exact absurd g0 h
    · exact absurd ⟨by omega, g1.2⟩ h
  have hon : other.length = n := by omega
  rw [L13_other (by omega)]
  simp only [Option.bind_some, l03_CircuitRota_j23]
  have key : ∀ v : Bool, (v = true → InRange k.Trials.length other ∧ okL c k.Trials g other = true) → l03_CircuitRota_j25 c k other (outB (bestOf c k.Trials g n ((k.Trials.length + 1) ^ n))) ((tried other : Nat) : Int) v = some true := by
    intro v hvv
    obtain ⟨s1, s2⟩ := bestOf_spec (c := c) (l := k.Trials) (g := g) (n := n) (k := (k.Trials.length + 1) ^ n)
    unfold l03_CircuitRota_j25
    cases hb : bestOf c k.Trials g n ((k.Trials.length + 1) ^ n) with
    | none => simp [outB, hw]
    | some b =>
      have hbl := bestOf_len hb
      obtain ⟨q1, q2, q3⟩ := s2 b hb
      have e3 : (b.length : Int) = (other.length : Int) := by omega
      simp only [outB, not_true_eq_false, decide_false, Bool.false_eq_true, if_false, e3, L31_rota (l := b) (by omega) q2, Option.bind_some, l03_CircuitRota_j36, AsRota_val (list := b) (by omega)]
      obtain ⟨a', b', hck⟩ := check_as hc hv k1 hl g0 n1 n60 g1' g60 hbl q2
      rw [hg, hck, q1]
      simp only [Option.bind_some, hw, decide_true, Bool.true_and]
      cases v with
      | false => rfl
      | true =>
        obtain ⟨v1, v2⟩ := hvv rfl
        obtain ⟨y, hy, ey⟩ := listOf_onto n other hon v1
        have := q3 y hy (by rw [ey]; exact v2)
        rw [ey] at this
        have : ((tried b : Nat) : Int) ≤ ((tried other : Nat) : Int) := by omega
        simp [this]
  cases hval : other.all (fun x => decide (-1 ≤ x) && decide (x < (k.Trials.length : Int))) with
  | false =>
    simp only [Bool.false_eq_true, if_false]
    exact key false (fun h => by cases h)
  | true =>
    have hin : InRange k.Trials.length other := fun x hx => by
      have := List.all_eq_true.1 hval x hx
      simpa using this
    obtain ⟨a', b', hck⟩ := check_as hc hv k1 hl g0 n1 n60 g1' g60 hon hin
    simp only [if_true, AsRota_val (list := other) (by omega), Option.bind_some]
    rw [hg, hck]
    simp only [Option.bind_some, not_true_eq_false, decide_false, Bool.false_or]
    cases hok : okL c k.Trials g other with
    | false =>
      simp only [Bool.false_and, Bool.false_eq_true, if_false]
      exact key false (fun h => by cases h)
    | true =>
      have hne : (outB (bestOf c k.Trials g n ((k.Trials.length + 1) ^ n))).2 = 0 := by
        cases hb : bestOf c k.Trials g n ((k.Trials.length + 1) ^ n) with
        | some b => rfl
        | none =>
          obtain ⟨s1, _⟩ := bestOf_spec (c := c) (l := k.Trials) (g := g) (n := n) (k := (k.Trials.length + 1) ^ n)
          obtain ⟨y, hy, ey⟩ := listOf_onto n other hon hin
          have := s1 hb y hy
          rw [ey, hok] at this; cases this
      simp only [hne, not_true_eq_false, decide_false, Bool.and_false, Bool.false_eq_true, if_false]
      exact key true (fun _ => ⟨hin, hok⟩)
end Go.Nw.CM
