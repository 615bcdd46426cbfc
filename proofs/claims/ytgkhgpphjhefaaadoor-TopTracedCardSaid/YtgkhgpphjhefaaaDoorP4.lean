/- Plain laws on the models. -/
import Derived.Test.YtgkhgpphjhefaaaDoorP2
import Derived.Test.YtgkhgpphjhefaaaDoorP3
import Derived.Test.YtgkhgpphjhefaaaDoorKUM1
set_option linter.all false
namespace Go.Nw.UM
open Go.Nw.Tp2
set_option maxHeartbeats 4000000
theorem u7p {h : Heap} {v : AV} {l : List Int} (hv : s93 h v l) : Fz h v (.fs 1 (List.map eI l)) := by
 rcases hv with ⟨rfl, rfl⟩ | ⟨id, rest, rfl, ho, _⟩
 ·exact .nil 1
 ·refine .rs id 0 _ 1 _ _ ho (by simp) (by simp) (fun d hd => ?_) (fun i j c d h1 h2 => ?_)
  ·obtain ⟨a, _, rfl⟩ := List.mem_map.1 hd; rfl
  ·rw [Nat.zero_add] at h1
   have hi : i < l.length := by
    unfold at2 at h2
    obtain ⟨e, he, _⟩ := bE9.1 h2
    have := (gS9.1 he).1; simpa using this
   have e1 : at2 (List.map eI l ++ rest) i j = at2 (List.map eI l) i j := by
    unfold at2; rw [List.getElem?_append_left (by simpa using hi)]
   rw [e1, h2] at h1; cases h1
   obtain ⟨e, he, hc⟩ := b9m h2
   have hm := mG9 he
   obtain ⟨a, _, rfl⟩ := List.mem_map.1 hm
   exact .refl _ (b1t a _ (mG9 hc))
theorem u82 {n : Nat} : b2d (.mp n) = true := rfl
theorem u81 {n : Nat} : cellsOf (.mp n) = [.mp n] := rfl
variable {O : Orac} [MapsOk O] [DynOk O]
def l64 (a : Accident) (t : Theory) : faults_inquiry := ⟨a, ⟨a.Machine⟩, t⟩
theorem u9j (kC : ∀ k, s96 O k) {a : Accident} {t_ : Theory} {keep_n : String} {keep_a keep_b : List AV} {keep : Kp} (keep_z : Frz (.fn keep_n keep_a keep_b)) (keep_h : ∀ z0 y, keep z0 = some y -> Fn O keep_n (keep_a ++ [I z0] ++ keep_b) (B y))
  {fits_n : String} {fits_a fits_b : List AV} {fits : Ft} (fits_z : Frz (.fn fits_n fits_a fits_b)) (fits_h : ∀ z0 z1 z2 y, fits z0 z1 z2 = some y -> Fn O fits_n (fits_a ++ [I z0, .agg [I z1.State, I z1.Values.1, I z1.Values.2], I z2] ++ fits_b) (B y))
  {r : List Int × Bool} (hm0 : s89 a t_ keep fits = some r) {L : AV} (hL : L = .fs 1 (List.map eI r.1) \/ L = .dead) {t : Slots} {h : Heap} {iq im : Nat} (s8 : t 8 = .rp iq 0 0) (H : IQ h iq im nilS (l64 a t_) (.fn keep_n keep_a keep_b) (.fn fits_n fits_a fits_b) [] []) :
  cw O (.seq (.seq (.reg u5s) (.cond (.t 38) (.seq (.reg u5t) .ret) .skip)) (.seq (.reg u5u) .ret)) (c4n [.t 6, .t 7] (.tup [L, B r.2]) []) t h := by
 unfold s89 at hm0
 obtain ⟨rr, hr, hm0⟩ := b0g hm0
 obtain rfl := Option.some.inj hm0
 refine b0v ?_
 refine b2p (fun t h => ∃ v', t 8 = .rp iq 0 0 /\ t 38 = B (!rr.1) /\ IQ h iq im v' (l64 a t_) (.fn keep_n keep_a keep_b) (.fn fits_n fits_a fits_b) rr.2.1 rr.2.2) (fun K hK => ?_) ?_
 ·simp only [go_sem, s8]
  refine d9m (kC _ (l64 a t_) keep_n keep_a keep_b keep keep_z keep_h fits_n fits_a fits_b fits fits_z fits_h ⟨0, ⟨0, (0, 0)⟩, 0⟩ [] [] iq im nilS h H rr hr) ?_
  rintro _ h2 ⟨rfl, v3, H3⟩
  simp only [go_sem]
  exact hK _ _ ⟨v3, by simp only [go_sem, s8], by simp only [go_sem], H3⟩
 rintro t h ⟨v', s8, s38, H⟩
 refine b0i fun K hK => ?_
 simp only [go_sem, s38]
 refine b0k (fun hc => ?_) (fun hc => ?_)
 ·refine b0b fun K hK => ?_
  simp only [go_sem]
  refine hK _ _ ?_
  clear hK K
  simp only [b0x, b1p, b2e, b0y]
  have e : rr.1 = false := by simpa using hc
  rw [e]
  have hl : Fz h nilS L := by
   rcases hL with rfl | rfl
   ·rw [e]; exact .nil _
   ·exact .dead _
  exact d66 (v := nilS) (u := B false) (by simp only [go_sem]) (by simp only [go_sem]) hl (.refl _ (b0e _))
 ·simp only [b0s, b0f]
  refine hK _ _ ?_
  clear hK K
  have hqs := H.q
  simp only [QC] at hqs
  have e : rr.1 = true := by simpa using hc
  refine b0b fun K hK => ?_
  simp only [go_sem, s8, hqs, b5r v']
  refine hK _ _ ?_
  clear hK K
  simp only [b0x, b1p, b2e, b0y]
  rw [e]
  have hl : Fz h v' L := by
   rcases hL with rfl | rfl
   ·rw [e]; exact u7p H.ow
   ·exact .dead _
  exact d66 (v := v') (u := B true) (by simp only [go_sem]) (by simp only [go_sem]) hl (.refl _ (b0e _))
theorem IQ.keep {h : Heap} {iq im : Nat} {v : AV} {q : faults_inquiry} {kf ff kf' : AV} {dead : b54} {ins : List Int} (H : IQ h iq im v q kf ff dead ins) :
  IQ (h.upd iq (some (20, [QC q kf' ff im v]))) iq im v q kf' ff dead ins :=
 ⟨c53 rfl, H.ql, by rw [g3s (fun e => H.ne e.symm)]; exact H.m, H.ml, s9q H.ow (fun j hj _ => g3s (fun e => hj (by subst e; exact H.nq))) (Nat.le_refl _), H.ne, H.nq, H.nm⟩
theorem IQ.fits {h : Heap} {iq im : Nat} {v : AV} {q : faults_inquiry} {kf ff ff' : AV} {dead : b54} {ins : List Int} (H : IQ h iq im v q kf ff dead ins) :
  IQ (h.upd iq (some (20, [QC q kf ff' im v]))) iq im v q kf ff' dead ins :=
 ⟨c53 rfl, H.ql, by rw [g3s (fun e => H.ne e.symm)]; exact H.m, H.ml, s9q H.ow (fun j hj _ => g3s (fun e => hj (by subst e; exact H.nq))) (Nat.le_refl _), H.ne, H.nq, H.nm⟩
theorem u9i (hf : Has O "newel/faults.search" x_faults_search) (kC : ∀ k, s96 O k) {a : Accident} {t_ : Theory} {opts : List AV} (hz : ∀ o ∈ opts, Frz o) (hlen : opts.length <= 1000) (kf ff : Nat -> AV) (k0 : kf 0 = .fn "newel/faults.search$1" [] []) (f0 : ff 0 = .fn "newel/faults.search$2" [] [])
  (hstep : ∀ (k : Nat) o, opts[k]? = some o -> ∃ nm oa ob, o = .fn nm oa ob /\ b2k nm = none /\ ∀ h iq im, IQ h iq im nilS (l64 a t_) (kf k) (ff k) [] [] -> b6e O nm (oa ++ [.rp iq 0 0] ++ ob) h (fun _ h' => IQ h' iq im nilS (l64 a t_) (kf (k + 1)) (ff (k + 1)) [] []))
  {keep_n : String} {keep_a keep_b : List AV} {keep : Kp} (keep_z : Frz (.fn keep_n keep_a keep_b)) (keep_h : ∀ z0 y, keep z0 = some y -> Fn O keep_n (keep_a ++ [I z0] ++ keep_b) (B y))
  {fits_n : String} {fits_a fits_b : List AV} {fits : Ft} (fits_z : Frz (.fn fits_n fits_a fits_b)) (fits_h : ∀ z0 z1 z2 y, fits z0 z1 z2 = some y -> Fn O fits_n (fits_a ++ [I z0, .agg [I z1.State, I z1.Values.1, I z1.Values.2], I z2] ++ fits_b) (B y))
  (kN : kf opts.length = .fn keep_n keep_a keep_b) (fN : ff opts.length = .fn fits_n fits_a fits_b)
  {r : List Int × Bool} (hm0 : s89 a t_ keep fits = some r) {L : AV} (hL : L = .fs 1 (List.map eI r.1) \/ L = .dead) :
  Fn O "newel/faults.search" [.agg (aA a), .agg [I t_.Input, I t_.Value, I t_.From], .fs 1 (opts.map fun o => [o])] (.tup [L, B r.2]) := by
 refine b1i hf rfl (b0a (.agg _ (b0a (b0c fun a _ => b0z a) (b0a (b0c fun a _ => b0z a) (b0a (b0c fun a _ => b1q a) (b0a (b0c fun a _ => b1s a) (b0a (b0c fun a _ => b1r a) (b0a (b0c fun a _ => b2j a) (b0a (b0e _) (b0a (b0c fun a _ => c17 a) b0j))))))))) (b0a (.agg _ (b0a (b0e _) (b0a (b0e _) (b0a (b0e _) b0j)))) (b0a (.fs _ _ fun e he c hc => ?_) b0j)))
  (.tup _ (b0a (by rcases hL with rfl | rfl; exact b0c fun a _ => b1t a; exact .dead) (b0a (b0e _) b0j))) ?_
 ·obtain ⟨o, ho, rfl⟩ := List.mem_map.1 he
  rw [List.mem_singleton.1 hc]; exact hz o ho
 refine b1c (fun t h => t 0 = .agg (aA a) /\ t 1 = .agg [I t_.Input, I t_.Value, I t_.From] /\ t 2 = .fs 1 (opts.map fun o => [o])) ⟨rfl, rfl, rfl⟩ fun t h ⟨s0, s1, s2⟩ => ?_
 simp only [x_faults_search]
 refine b0b fun K hK => ?_
 simp only [go_sem, s0, s1]
 refine hK _ _ ?_
 clear hK K
 refine b2p (fun t h => ∃ iq im, t 2 = .fs 1 (opts.map fun o => [o]) /\ t 8 = .rp iq 0 0 /\ IQ h iq im nilS (l64 a t_) (.v .nilFunc) (.v .nilFunc) [] []) (fun K hK => ?_) ?_
 ·simp only [go_sem]
  refine g0d (O := O) (e := List.map (eM (vks s8w) vB) []) rfl ?_
  simp only [go_sem, u82, u81]
  exact hK _ _ ⟨nxs h.nx, h.nx, by simp only [go_sem, s2], by simp only [go_sem], ⟨by simp only [go_sem, QC, l64], by simp only [go_sem, nxs]; omega, by simp only [go_sem], by simp only [go_sem, nxs]; omega, .inl ⟨rfl, rfl⟩, by simp only [nxs]; omega, trivial, trivial⟩⟩
 clear s0 s1 s2
 rintro t h ⟨iq, im, s2, s8, H⟩
 have hqs := H.q
 simp only [QC] at hqs
 refine b2p (fun t h => t 2 = .fs 1 (opts.map fun o => [o]) /\ t 8 = .rp iq 0 0 /\ IQ h iq im nilS (l64 a t_) (.fn "newel/faults.search$1" [] []) (.v .nilFunc) [] []) (fun K hK => ?_) ?_
 ·simp only [go_sem, s8, hqs]
  exact hK _ _ ⟨by simp only [go_sem, s2], by simp only [go_sem, s8], H.keep⟩
 clear s2 s8 H hqs
 rintro t h ⟨s2, s8, H⟩
 have hqs := H.q
 simp only [QC] at hqs
 refine b2p (fun t h => t 2 = .fs 1 (opts.map fun o => [o]) /\ t 8 = .rp iq 0 0 /\ IQ h iq im nilS (l64 a t_) (.fn "newel/faults.search$1" [] []) (.fn "newel/faults.search$2" [] []) [] []) (fun K hK => ?_) ?_
 ·simp only [go_sem, s8, hqs]
  exact hK _ _ ⟨by simp only [go_sem, s2], by simp only [go_sem, s8], H.fits⟩
 clear s2 s8 H hqs
 rintro t h ⟨s2, s8, H⟩
 refine b0v ?_
 refine b0b fun K hK => ?_
 simp only [go_sem, s2]
 refine hK _ _ ?_
 clear hK K
 refine b0i fun K1 hK1 => ?_
 simp only [b0u]
 have hloop : b0w (fun x : Int => if decide (x < (opts.length : Int)) then some (Out.nx (wr (x + 1))) else some (.br ())) 0 = some () := by
  refine b4h opts.length (fun (_ : Unit) k => k) (fun _ => ()) () (s0 := ()) rfl (fun k hk => ?_) ?_
  ·simp only [Int.ofNat_lt, hk, decide_true, if_true, b2r hk (by simp only [maxLen]; omega : opts.length <= maxLen)]
  ·simp only [Int.lt_irrefl, decide_false, fT9, if_false]
 refine b1j hloop (fun x t h => ∃ k : Nat, x = (k : Int) /\ k <= opts.length /\ t 8 = .rp iq 0 0 /\ t 25 = .fs 1 (opts.map fun o => [o]) /\ t 26 = I (opts.length : Int) /\ t 27 = I x /\ IQ h iq im nilS (l64 a t_) (kf k) (ff k) [] []) ?_ ?_
 ·exact ⟨0, rfl, Nat.zero_le _, by simp only [go_sem, s8], by simp only [go_sem], by simp only [go_sem, List.length_map], by simp only [go_sem], by rw [k0, f0]; exact H⟩
 clear s2 s8 H
 rintro x o t h ⟨k, rfl, hk, s8, s25, s26, s27, H⟩ hm1 hb
 rw [u5v]
 refine b0b fun K hK => ?_
 simp only [go_sem, s26, s27]
 refine hK _ _ ?_
 clear hK K
 refine b0i fun K2 hK2 => ?_
 simp only [go_sem]
 refine b0k (fun hc => ?_) (fun hc => ?_)
 ·rw [b0r hc] at hm1
  obtain rfl := Option.some.inj hm1
  have hk' : k < opts.length := by simpa using hc
  obtain ⟨o, ho⟩ := b3b hk'
  obtain ⟨nm, oa, ob, rfl, hmn, hst⟩ := hstep k o ho
  simp only [b0s, b02, b0f]
  refine hK2 _ _ ?_
  refine b0i fun K3 hK3 => ?_
  simp only [b0u]
  have hg : get opts (k : Int) = some (.fn nm oa ob) := b1h ho
  have hel : ((opts.map fun o => [o]) : List (List AV))[k]? = some [.fn nm oa ob] := by rw [List.getElem?_map, ho]; rfl
  refine b0b fun K hK => ?_
  simp only [go_sem, s25, s27, b08 hg]
  refine hK _ _ ?_
  clear hK K
  refine b03 fun K hK => ?_
  simp only [go_sem, s8]
  refine u8l (hst h iq im H) hmn ?_
  intro w h' H'
  simp only [go_sem]
  refine hK _ _ ?_
  clear hK K
  simp only [b02, b0f]
  refine hK3 _ _ ?_
  refine b03 fun K hK => ?_
  simp only [go_sem, s27]
  refine hK _ _ ?_
  clear hK K
  simp only [b02, b0f]
  exact ⟨_, rfl, k + 1, by rw [b2r hk' (by simp only [maxLen]; omega : opts.length <= maxLen)]; rfl, by omega, by simp only [go_sem, s8], by simp only [go_sem, s25], by simp only [go_sem, s26], by simp only [go_sem], H'⟩
 ·rw [b0q hc] at hm1
  obtain rfl := Option.some.inj hm1
  have : k = opts.length := by have : ¬ k < opts.length := by simpa using hc
                               omega
  subst this
  simp only [b09, b1b, b1a, c0s, b02, b0f, Nat.reduceEqDiff, not_false_eq_true]
  refine hK1 _ _ ?_
  rw [kN, fN] at H
  exact u9j kC keep_z keep_h fits_z fits_h hm0 hL (by simp only [go_sem, s8]) H
theorem u45 {n : String} : Frz (.fn n [] []) := .fn _ _ _ (fun c hc => by simp at hc) (fun c hc => by simp at hc)
theorem u8p (k1 : s98 O) : ∀ z0 y, (fun _ : Int => some true) z0 = some y -> Fn O "newel/faults.search$1" ([] ++ [I z0] ++ []) (B y) := fun z0 y hy => by
 cases hy; exact k1 z0
theorem u7k (k2 : y71 O) : ∀ z0 z1 z2 y, (fun (_ : Int) (_ : Place) (_ : Int) => some true) z0 z1 z2 = some y -> Fn O "newel/faults.search$2" ([] ++ [I z0, .agg [I z1.State, I z1.Values.1, I z1.Values.2], I z2] ++ []) (B y) := fun z0 z1 z2 y hy => by
 cases hy; exact k2 z0 z1 z2
theorem u8n (hf : Has O "newel/faults.search" x_faults_search) (kC : ∀ k, s96 O k) (k1 : s98 O) (k2 : y71 O) : s97 O := fun a t_ r hm0 =>
 u9i hf kC (opts := []) (fun o ho => by simp at ho) (by simp) (fun _ => .fn "newel/faults.search$1" [] []) (fun _ => .fn "newel/faults.search$2" [] []) rfl rfl (fun k o ho => by simp at ho) u45 (u8p k1) u45 (u7k k2) rfl rfl hm0 (.inl rfl)
def u2i (O : Orac) : Prop := ∀ k, s96 O k
theorem u3h (hf : Has O "(*newel/faults.inquiry).course" x___faults_inquiry__course) (d2w : c9y O) (d2x : c9z O) (d20 : c92 O) (u3f : u1g O) (u3g : u1h O) : u2i O := by
 exact u48 hf d2w d2x d20 u3f u3g
theorem u0r (hf : Has O "newel/faults.search" x_faults_search) (u3h : u2i O) (u3l : s98 O) (u3m : y71 O) : s97 O := by
 exact u8n hf u3h u3l u3m
end Go.Nw.UM
namespace Go.Nw
section
variable {π : Type} (From To : Nat -> Nat) (Al : Nat -> Bool) (hold : Nat -> π -> Nat -> Bool)
def b81 (l : List Nat) (t : Nat) (p : π) (x D : Nat) : Nat -> Option Nat
 | 0 => some D
 | k + 1 => (b81 l t p x D k).bind (y72 From To Al (fun _ => true) hold t p x (l.getD k 0))
variable {From To Al hold}
theorem u85 {t : Nat} {p : π} {x i : Nat} {b : Bool} : l56 From To Al hold t p x i (l56 From To Al hold t p x i b) = l56 From To Al hold t p x i b := by
 unfold l56
 split
 ·cases b <;> simp
 ·rfl
theorem u4q {l : List Nat} {t : Nat} {p : π} {x D : Nat} : ∀ k, k <= l.length ->
  (∀ D', b81 From To Al hold l t p x D k = some D' -> (∀ i ∈ l.take k, l63 From To Al hold t p x i) /\ ∀ j, D'.testBit j = if j ∈ l.take k then l56 From To Al hold t p x j (D.testBit j) else D.testBit j) /\
  (b81 From To Al hold l t p x D k = none -> ∃ i ∈ l.take k, ¬ l63 From To Al hold t p x i)
 | 0, _ => ⟨fun D' h => by cases h; simp, fun h => by cases h⟩
 | k + 1, hk => by
  obtain ⟨ih1, ih2⟩ := u4q (l := l) (t := t) (p := p) (x := x) (D := D) k (by omega)
  have et : l.take (k + 1) = l.take k ++ [l.getD k 0] := by
   obtain ⟨y, hy⟩ := b3b (show k < l.length by omega)
   rw [List.take_add_one, hy, List.getD_eq_getElem?_getD, hy]; rfl
  refine ⟨fun D' h => ?_, fun h => ?_⟩
  ·obtain ⟨D1, h1, h2⟩ := bE9.1 h
   obtain ⟨g1, g2⟩ := ih1 D1 h1
   obtain ⟨e1, e2⟩ := u4l h2
   refine ⟨fun i hi => ?_, fun j => ?_⟩
   ·rw [et] at hi
    rcases List.mem_append.1 hi with hi | hi
    ·exact g1 i hi
    ·rw [List.mem_singleton.1 hi]; exact e1 rfl
   ·rw [e2, et]
    by_cases e : j = l.getD k 0
    ·rw [if_pos ⟨e, rfl⟩, <- e, g2]
     rw [if_pos (show j ∈ l.take k ++ [j] from List.mem_append_right _ (List.mem_singleton.2 rfl))]
     by_cases hj : j ∈ l.take k
     ·rw [if_pos hj, u85]
     ·rw [if_neg hj]
    ·rw [if_neg (fun q => e q.1), g2]
     by_cases hj : j ∈ l.take k
     ·rw [if_pos hj, if_pos (List.mem_append_left _ hj)]
     ·rw [if_neg hj, if_neg (fun q => by
       rcases List.mem_append.1 q with q | q
       ·exact hj q
       ·exact e (List.mem_singleton.1 q))]
  ·unfold b81 at h
   cases h1 : b81 From To Al hold l t p x D k with
   | none =>
    obtain ⟨i, a, b⟩ := ih2 h1
    exact ⟨i, by rw [et]; exact List.mem_append_left _ a, b⟩
   | some D1 =>
    rw [h1, bS9] at h
    exact ⟨_, by rw [et]; exact List.mem_append_right _ (by simp), (u4k h).2⟩
theorem u6s {l : List Nat} {n t : Nat} {p : π} {x D : Nat} {keep : Nat -> Bool} (hl : ∀ i, i ∈ l ↔ i < n /\ keep i = true) : b81 From To Al hold l t p x D l.length = c37 From To Al keep hold t p x D n := by
 obtain ⟨k1, k2⟩ := u4q (From := From) (To := To) (Al := Al) (hold := hold) (l := l) (t := t) (p := p) (x := x) (D := D) l.length (Nat.le_refl _)
 obtain ⟨d1, d2⟩ := s9g (From := From) (To := To) (Al := Al) (hold := hold) (keep := keep) (t := t) (p := p) (x := x) (D := D) n
 rw [List.take_length] at k1 k2
 cases h1 : b81 From To Al hold l t p x D l.length with
 | none =>
  cases h2 : c37 From To Al keep hold t p x D n with
  | none => rfl
  | some E =>
   obtain ⟨i, hi, hc⟩ := k2 h1
   have := (hl i).1 hi
   exact absurd ((d1 E h2).1 i this.1 this.2) hc
 | some D' =>
  cases h2 : c37 From To Al keep hold t p x D n with
  | none =>
   obtain ⟨i, hi, hk, hc⟩ := d2 h2
   exact absurd ((k1 D' h1).1 i ((hl i).2 ⟨hi, hk⟩)) hc
  | some E =>
   congr 1
   refine Nat.eq_of_testBit_eq fun j => ?_
   rw [(k1 D' h1).2, (d1 E h2).2]
   by_cases hj : j ∈ l
   ·rw [if_pos hj, if_pos ((hl j).1 hj)]
   ·rw [if_neg hj, if_neg (fun q => hj ((hl j).2 q))]
theorem u4o {l : List Nat} {t : Nat} {p : π} {x D k : Nat} (hD : D < 2 ^ k) (hl : ∀ i ∈ l, i < k) : ∀ n D', n <= l.length -> b81 From To Al hold l t p x D n = some D' -> D' < 2 ^ k
 | 0, D', _, h => by cases h; exact hD
 | n + 1, D', hn, h => by
  obtain ⟨D1, h1, h2⟩ := bE9.1 h
  obtain ⟨y, hy⟩ := b3b (show n < l.length by omega)
  have e : l.getD n 0 = y := by rw [List.getD_eq_getElem?_getD, hy]; rfl
  rw [e] at h2
  exact UM.bit2_lt h2 (u4o hD hl n D1 (by omega) h1) (hl y (mG9 hy))
theorem u4p {l : List Nat} {t : Nat} {p : π} {x D k : Nat} (h : b81 From To Al hold l t p x D k = none) : ∀ d, b81 From To Al hold l t p x D (k + d) = none
 | 0 => h
 | d + 1 => by show (b81 From To Al hold l t p x D (k + d)).bind _ = none; rw [u4p h d]; rfl
end
end Go.Nw
namespace Go.Nw.UM
noncomputable section
theorem p53 : ((List.range 16).all fun x => (List.range 4).all fun i => (List.range 2).all fun v => decide (((shl .i64 1 (i : Int)).bind fun q6 => (shl .i64 (v : Int) (i : Int)).bind fun q7 => some (bor (g6a (x : Int) q6) q7)) = b6a (x : Int) (i : Int) (v : Int))) = true := by decide +kernel
theorem u46 {x i v : Nat} (hx : x < 16) (hi : i < 4) (hv : v < 2) : ((shl .i64 1 (i : Int)).bind fun q6 => (shl .i64 (v : Int) (i : Int)).bind fun q7 => some (bor (g6a (x : Int) q6) q7)) = b6a x i v := by
 have h := List.all_eq_true.1 p53 x (List.mem_range.2 hx)
 have h := List.all_eq_true.1 h i (List.mem_range.2 hi)
 have h := List.all_eq_true.1 h v (List.mem_range.2 hv)
 simpa only [decide_eq_true_eq] using h
theorem u47 {a : Accident} {th : Theory} (ha : OkA a) (hth : OkT a th) {t x : Nat} (hx : x < nA a) : s86 th t x = some (hdT th t x) := by
 rw [<- w9w ha hth]
 have hn := u3y ha
 have hz := ha.m.z.i
 unfold hdO s86
 by_cases hc : (decide (th.Input < 0) || decide ((t : Int) < th.From)) = true
 ·rw [if_pos hc, if_pos hc]
 ·rw [if_neg hc, if_neg hc]
  simp only [Bool.or_eq_true, decide_eq_true_eq] at hc
  rcases u5f hth ha with ⟨h1, h2, h3⟩ | ⟨h1, h2, h3⟩
  ·omega
  ·unfold In at h1
   obtain ⟨i, hi⟩ : ∃ i : Nat, th.Input = i := ⟨th.Input.toNat, by omega⟩
   obtain ⟨v, hv⟩ : ∃ i : Nat, th.Value = i := ⟨th.Value.toNat, by omega⟩
   rw [hi, hv, u46 (by omega) (by omega) (by omega)]
   cases b6a (x : Int) (i : Int) (v : Int) <;> rfl
def toI (l : List Nat) : List Int := l.map (fun i : Nat => (i : Int))
theorem u5m {l : List Nat} {k i : Nat} (h : l[k]? = some i) : get (toI l) (k : Int) = some (i : Int) := b1h (by unfold toI; rw [List.getElem?_map, h]; rfl)
theorem s95 {l : List Nat} : (toI l).length = l.length := by simp [toI]
def c49 (l : List Nat) (i : Nat) : Bool := decide (i ∈ l)
def ftT (_ : Nat) (_ : Place) (_ : Nat) : Bool := true
abbrev TD (a : Accident) (th : Theory) (l : List Nat) : Nat × Place × Nat -> Nat -> Option (Nat × Place × Nat) :=
 trD (fr a) (to a) (al a) (c49 l) (hold a) (stA a th) (okA a ftT) a.Records.length
def kn (s : Place × Nat) : r10_knot := ⟨s.1, (s.2 : Int)⟩
theorem s9n {s s' : Place × Nat} (h : kn s = kn s') : s = s' := by
 unfold kn at h
 injection h with h1 h2
 obtain ⟨a, b⟩ := s; obtain ⟨a', b'⟩ := s'
 simp only at h1 h2
 rw [h1, show b = b' by omega]
section
variable {a : Accident} {th : Theory} {l : List Nat}
theorem u1f {m m' : Nat × Place × Nat} {x : Nat} (h : TD a th l m x = some m') : ∃ D', okA a ftT m.1 m.2.1 x = true /\ c37 (fr a) (to a) (al a) (c49 l) (hold a) m.1 m.2.1 x m.2.2 a.Records.length = some D' /\ m' = (m.1 + 1, stA a th m.1 m.2.1 x, D') := by
 unfold TD trD at h
 split at h
 ·rename_i ho
  obtain ⟨D', h1, rfl⟩ := mE9.1 h
  exact ⟨D', ho, h1, rfl⟩
 ·cases h
theorem u4d (ha : OkA a) (hth : OkT a th) (hl : ∀ i ∈ l, i < a.Records.length) (hl8 : l.length <= 8) {m : Nat × Place × Nat} (hp : OkP a.Machine m.2.1) (hD : m.2.2 < 2 ^ 8) {x : Nat} (hx : x < nA a) :
  ∃ k b, l97 a th (toI l) (m.1 : Int) (kn m.2) (x : Int) = some (k, b) /\ (match TD a th l m x with | some m' => b = true /\ k = kn m'.2 | none => b = false) := by
 obtain ⟨t, p, D⟩ := m
 simp only at hp hD
 have hn8 := ha.n
 unfold l97
 have hal : c0t a.Machine (Place.mk (kn (p, D)).place.State ((kn (p, D)).place.Values.1, (kn (p, D)).place.Values.2)) (x : Int) a.Assume = some (c25 a.Machine p (x : Int) a.Assume) := d5o ha.m.z hp.s ha.asu
 simp only [hal, bS9]
 have hok : okA a ftT t p x = c25 a.Machine p (x : Int) a.Assume := by unfold okA ftT; simp
 cases hA : c25 a.Machine p (x : Int) a.Assume with
 | false =>
  rw [if_pos (by rfl)]
  refine ⟨_, _, rfl, ?_⟩
  have : TD a th l (t, p, D) x = none := by unfold TD trD; rw [if_neg (by rw [hok, hA]; simp)]
  rw [this]
 | true =>
  rw [if_neg (by simp)]
  have hTD : TD a th l (t, p, D) x = (b81 (fr a) (to a) (al a) (hold a) l t p x D l.length).map fun D' => (t + 1, stA a th t p x, D') := by
   unfold TD trD
   rw [if_pos (by rw [hok, hA])]
   rw [u6s (n := a.Records.length) (keep := c49 l) fun i => ⟨fun h => ⟨hl i h, by simp [c49, h]⟩, fun h => by simpa [c49] using h.2⟩]
  obtain ⟨b, h1, h2⟩ := j7u (f := s92 a (toI l) (t : Int) (kn (p, D)) (x : Int)) l.length (fun s k => (s, k)) (fun k s => ∃ E : Nat, s = (E : Int) /\ b81 (fr a) (to a) (al a) (hold a) l t p x D k = some E)
   (fun b => match b81 (fr a) (to a) (al a) (hold a) l t p x D l.length with | some D' => b = .inl (D' : Int) | none => ∃ k, b = .inr (k, false)) (fun s k hkn ⟨E, hs, hE⟩ => by
    subst hs
    obtain ⟨i, hi⟩ := b3b hkn
    have hin := hl i (mG9 hi)
    have eg : l.getD k 0 = i := by rw [List.getD_eq_getElem?_getD, hi]; rfl
    obtain ⟨r, hr, e, ef, et, _, _, hc⟩ := u2g ha hin
    have hE8 := u4o (k := 8) hD (fun j hj => by have := hl j hj; omega) k E (by omega) hE
    have he : E < 9223372036854775808 := Nat.lt_of_lt_of_le hE8 (by decide)
    have hpw : 2 ^ i < 9223372036854775808 := u3z (by omega)
    have hact : ((decide ((t : Int) < r.From)) || (decide (r.To < (t : Int)))) = !act (fr a) (to a) t i := by
     rw [ef, et, Bool.eq_iff_iff]; unfold act; simp
    have hAl : al a i = r.All := by unfold al; rw [e]
    have hh : hold a i p x = b46 a.Machine p (x : Int) r.Cond := by unfold hold; rw [e]
    have hbr : y72 (fr a) (to a) (al a) (fun _ => true) (hold a) t p x i E = none -> b81 (fr a) (to a) (al a) (hold a) l t p x D l.length = none := fun hb => by
     have h3 : b81 (fr a) (to a) (al a) (hold a) l t p x D (k + 1) = none := by
      show (b81 (fr a) (to a) (al a) (hold a) l t p x D k).bind _ = none
      rw [hE, bS9, eg, hb]
     have h4 := u4p h3 (l.length - (k + 1))
     rwa [show k + 1 + (l.length - (k + 1)) = l.length by omega] at h4
    have hnx : ∀ E', y72 (fr a) (to a) (al a) (fun _ => true) (hold a) t p x i E = some E' -> ∃ E2 : Nat, (E' : Int) = (E2 : Int) /\ b81 (fr a) (to a) (al a) (hold a) l t p x D (k + 1) = some E2 := fun E' hb => ⟨E', rfl, by
     show (b81 (fr a) (to a) (al a) (hold a) l t p x D k).bind _ = _
     rw [hE, bS9, eg, hb]⟩
    unfold s92
    simp only [u5m hi, b1h hr, bS9, s95, Int.ofNat_lt, hkn, decide_true, if_true, hact]
    unfold y72 at hbr hnx
    have hw : wr ((k : Int) + 1) = (k : Int) + 1 := b2r hkn (c12 hl8)
    by_cases c0 : act (fr a) (to a) t i = true
    ·simp only [c0, Bool.and_self, if_true] at hbr hnx
     rw [if_neg (by rw [c0]; simp)]
     have hHo : b7o a.Machine (Place.mk (kn (p, D)).place.State ((kn (p, D)).place.Values.1, (kn (p, D)).place.Values.2)) (x : Int) r.Cond = some (b46 a.Machine p (x : Int) r.Cond) := c5x ha.m.z hp.s hc
     rw [hHo, bS9, <- hh, <- hAl]
     by_cases c1 : (al a i && !hold a i p x) = true
     ·rw [if_pos c1] at hbr ⊢
      exact .inr ⟨_, rfl, by rw [hbr rfl]; exact ⟨_, rfl⟩⟩
     ·rw [if_neg c1] at hbr hnx ⊢
      by_cases c2 : (!al a i && hold a i p x) = true
      ·rw [if_pos c2] at hnx ⊢
       rw [u4e (by omega), u1e (by omega), bS9, u22 he hpw]
       unfold s8z
       rw [hw]
       exact .inl ⟨_, rfl, hnx _ rfl⟩
      ·rw [if_neg c2] at hnx ⊢
       unfold s8z
       rw [hw]
       exact .inl ⟨_, rfl, hnx _ rfl⟩
    ·simp only [c0, Bool.and_false, fT9, if_false] at hbr hnx
     rw [if_pos (by simp [c0])]
     unfold s8z
     rw [hw]
     exact .inl ⟨_, rfl, hnx _ rfl⟩) (fun s ⟨E, hs, hE⟩ => by
    subst hs
    refine ⟨.inl (E : Int), by unfold s92; simp only [s95, Int.lt_irrefl, decide_false, fT9, if_false], ?_⟩
    rw [hE]) 0 (Nat.zero_le _) (s := (D : Int)) ⟨D, rfl, rfl⟩
  have h1' : b0w (s92 a (toI l) (t : Int) (kn (p, D)) (x : Int)) ((kn (p, D)).done, 0) = some b := h1
  rw [h1', bS9, hTD]
  cases h3 : b81 (fr a) (to a) (al a) (hold a) l t p x D l.length with
  | some D' =>
   rw [h3] at h2
   subst h2
   simp only [Option.map_some]
   unfold u2e
   rw [u47 ha hth hx, bS9]
   have hN : c0w a.Machine (Place.mk (kn (p, D)).place.State ((kn (p, D)).place.Values.1, (kn (p, D)).place.Values.2)) (hdT th t x) = some (stA a th t p x) := d5u ha.m hp _
   rw [hN, bS9]
   exact ⟨_, _, rfl, rfl, rfl⟩
  | none =>
   rw [h3] at h2
   obtain ⟨k, rfl⟩ := h2
   exact ⟨_, _, rfl, rfl⟩
theorem x84 {l : List r10_knot} (hl : l.length <= 1048576) (k : r10_knot) : ∃ j, s8y l k = some j /\ (0 <= j ↔ k ∈ l) := by
 unfold s8y u13
 rw [c7s (f := s9t l k) (n := l.length) (p := fun i => decide (l[i]? = some k)) (e := fun i => .inr (i : Int)) (u := .inl ()) (fun t ht hp => by
   have hg : l[t]? = some k := of_decide_eq_true hp
   unfold s9t
   simp only [Int.ofNat_lt, ht, decide_true, if_true, b1h hg, bS9]) (fun t ht hp => by
   obtain ⟨y, hy⟩ := b3b ht
   have hne : ¬ y = k := fun e => by rw [<- e] at hp; simp [hy] at hp
   unfold s9t
   simp only [Int.ofNat_lt, ht, decide_true, if_true, b1h hy, bS9, hne, decide_false, fT9, if_false, b2r ht (d7y hl)]) (by
   unfold s9t; simp only [Int.lt_irrefl, decide_false, fT9, if_false])]
 cases h : b5q l.length (fun i => decide (l[i]? = some k)) with
 | none =>
  refine ⟨-1, rfl, ?_⟩
  rw [d72] at h
  constructor
  ·intro q; omega
  ·intro q
   obtain ⟨i, hi⟩ := b1d.1 q
   have := h i (b1k hi)
   simp [hi] at this
 | some i =>
  refine ⟨(i : Int), rfl, ?_⟩
  obtain ⟨h1, h2, _⟩ := j00 h
  exact ⟨fun _ => b1d.2 ⟨i, of_decide_eq_true h2⟩, fun _ => by omega⟩
theorem u5e (ha : OkA a) : shl .i64 1 (IntKind.wrap .u64 (List.length a.Machine.Inputs : Int)) = some ((nA a : Nat) : Int) := by
 have := ha.m.z.i
 rw [u4e (by omega), u1e (by omega)]; rfl
end
end
end Go.Nw.UM
namespace Go.Nw.UM
noncomputable section
def Rch (a : Accident) (th : Theory) (l : List Nat) : Nat -> Place × Nat -> Prop
 | 0, s => s = (zero, 0)
 | t + 1, s' => ∃ s, Rch a th l t s /\ ∃ x, x < nA a /\ TD a th l (t, s) x = some (t + 1, s')
def AcD (a : Accident) (th : Theory) (l : List Nat) (want : Nat) (w : List Nat) (m : Nat × Place × Nat) : Prop := Acc (TD a th l) (c40 (tA a) want) (nA a) w m
def b64 (a : Accident) (th : Theory) (l : List Nat) (want : Nat) (m : Nat × Place × Nat) : Prop := ∃ w, AcD a th l want w m
section
variable {a : Accident} {th : Theory} {l : List Nat} {want : Nat}
theorem u2f (ha : OkA a) : ∀ {t s}, Rch a th l t s -> OkP a.Machine s.1 /\ s.2 < 2 ^ 8
 | 0, s, h => by
  have : s = (zero, 0) := h
  subst this; exact ⟨o5b ha.m, Nat.two_pow_pos 8⟩
 | t + 1, s', h => by
  obtain ⟨s, h1, x, h2, h3⟩ := h
  obtain ⟨g1, g2⟩ := u2f ha h1
  obtain ⟨D', _, e2, e3⟩ := u1f h3
  simp only [Prod.mk.injEq, true_and] at e3
  subst e3
  exact ⟨s1f ha.m g1 _, u4m g2 _ _ ha.n e2⟩
theorem u2y {w : List Nat} {m : Nat × Place × Nat} (hm : m.1 = tA a) : AcD a th l want w m ↔ w = [] /\ m.2.2 = want := by
 unfold AcD
 cases w with
 | nil => rw [Acc]; unfold c40; simp [hm]
 | cons x xs =>
  constructor
  ·rintro h
   -- behind the last tick nothing is accepted
   have late : ∀ (ys : List Nat) (m : Nat × Place × Nat), tA a < m.1 -> ¬ Acc (TD a th l) (c40 (tA a) want) (nA a) ys m := by
    intro ys
    induction ys with
    | nil => intro m hm h; simp [Acc, c40] at h; omega
    | cons y ys ih =>
     rintro m hm ⟨_, _, m2, g1, g2⟩
     obtain ⟨_, _, _, rfl⟩ := u1f g1
     exact ih _ (by show tA a < m.1 + 1; omega) g2
   obtain ⟨_, _, m2, g1, g2⟩ := h
   obtain ⟨_, _, _, rfl⟩ := u1f g1
   exact absurd g2 (late _ _ (by show tA a < m.1 + 1; omega))
  ·rintro ⟨h, _⟩; cases h
theorem u1t {m : Nat × Place × Nat} {x : Nat} {xs : List Nat} (hm : m.1 < tA a) : AcD a th l want (x :: xs) m ↔ x < nA a /\ ∃ m', TD a th l m x = some m' /\ AcD a th l want xs m' := by
 unfold AcD
 rw [Acc]
 constructor
 ·rintro ⟨_, h⟩; exact h
 ·intro h
  refine ⟨?_, h⟩
  unfold c40; simp; omega
theorem u5b {m : Nat × Place × Nat} (hm : m.1 < tA a) : b64 a th l want m ↔ ∃ x, x < nA a /\ ∃ m', TD a th l m x = some m' /\ b64 a th l want m' := by
 constructor
 ·rintro ⟨w, hw⟩
  cases w with
  | nil => unfold AcD at hw; rw [Acc] at hw; unfold c40 at hw; simp at hw; omega
  | cons x xs =>
   obtain ⟨h1, m', h2, h3⟩ := (u1t hm).1 hw
   exact ⟨x, h1, m', h2, xs, h3⟩
 ·rintro ⟨x, h1, m', h2, xs, h3⟩
  exact ⟨x :: xs, (u1t hm).2 ⟨h1, m', h2, h3⟩⟩
theorem u1x (k : r10_knot) : r10_knot.mk (Place.mk k.place.State (k.place.Values.1, k.place.Values.2)) k.done = k := rfl
def s8t (a : Accident) (th : Theory) (l : List Nat) (t : Nat) (row : List r10_knot) : Prop := row.length <= 4 ^ t /\ ∀ k, k ∈ row ↔ ∃ s, Rch a th l t s /\ k = kn s
def r61 (a : Accident) (th : Theory) (l : List Nat) (want t : Nat) (row : List r10_knot) : Prop := row.length <= 4 ^ t /\ ∀ k, k ∈ row ↔ ∃ s, Rch a th l t s /\ b64 a th l want (t, s) /\ k = kn s
theorem u00 {t : Nat} (h : t <= 6) : 4 ^ t <= 4096 := Nat.pow_le_pow_right (n := 4) (by omega) h
theorem nA4 (hs : Small a) : nA a <= 4 := Nat.pow_le_pow_right (n := 2) (by omega) hs.i
theorem tA6 (hs : Small a) : tA a <= 6 := by have := hs.t; have := hs.ok.t; unfold tA; omega
variable (hs : Small a) (hth : OkT a th) (hl : ∀ i ∈ l, i < a.Records.length) (hl8 : l.length <= 8)
include hs hth hl hl8
theorem u7m {rows : List (List r10_knot)} {row : List r10_knot} {t i : Nat} {s : Place × Nat} (hr : rows[t]? = some row) (hi : row[i]? = some (kn s)) (hp : OkP a.Machine s.1) (hD : s.2 < 2 ^ 8) {next : List r10_knot} (hn : next.length <= 100000) :
  ∃ nx, b0w (s9v a th (toI l) ((nA a : Nat) : Int) rows (t : Int) (i : Int)) (next, 0) = some nx /\ nx.length <= next.length + nA a /\ ∀ k, k ∈ nx ↔ k ∈ next \/ ∃ y, y < nA a /\ ∃ m', TD a th l (t, s) y = some m' /\ k = kn m'.2 := by
 have h4 := nA4 hs
 obtain ⟨b, h1, h2⟩ := j7u (f := s9v a th (toI l) ((nA a : Nat) : Int) rows (t : Int) (i : Int)) (nA a) (fun s k => (s, k))
  (fun x nx => nx.length <= next.length + x /\ ∀ k, k ∈ nx ↔ k ∈ next \/ ∃ y, y < x /\ ∃ m', TD a th l (t, s) y = some m' /\ k = kn m'.2)
  (fun nx => nx.length <= next.length + nA a /\ ∀ k, k ∈ nx ↔ k ∈ next \/ ∃ y, y < nA a /\ ∃ m', TD a th l (t, s) y = some m' /\ k = kn m'.2) (fun nx x hx ⟨i1, i2⟩ => by
   obtain ⟨k, b, g1, g2⟩ := u4d (m := (t, s)) hs.ok hth hl hl8 hp hD hx
   have hw : wr ((x : Int) + 1) = (x : Int) + 1 := b2r hx (by simp only [maxLen]; omega)
   have hnx : ∀ k', (k' ∈ next \/ ∃ y, y < x + 1 /\ ∃ m', TD a th l (t, s) y = some m' /\ k' = kn m'.2) ↔ k' ∈ nx \/ ∃ m', TD a th l (t, s) x = some m' /\ k' = kn m'.2 := fun k' => by
    rw [i2 k']
    constructor
    ·rintro (h | ⟨y, h1, h2⟩)
     ·exact .inl (.inl h)
     ·by_cases e : y = x
      ·subst e; exact .inr h2
      ·exact .inl (.inr ⟨y, by omega, h2⟩)
    ·rintro ((h | ⟨y, h1, h2⟩) | h)
     ·exact .inl h
     ·exact .inr ⟨y, by omega, h2⟩
     ·exact .inr ⟨x, by omega, h⟩
   have hxx : ((x : Int) < ((nA a : Nat) : Int)) := by omega
   unfold s9v
   simp only [hxx, decide_true, if_true, b1h hr, b1h hi, bS9, u1x]
   rw [show l97 a th (toI l) (t : Int) (kn s) (x : Int) = _ from g1, bS9]
   unfold u07
   cases ht : TD a th l (t, s) x with
   | none =>
    rw [ht] at g2
    simp only at g2
    subst g2
    simp only [fT9, if_false, bS9, hw]
    refine .inl ⟨nx, rfl, by omega, fun k' => ?_⟩
    rw [hnx k', ht]; simp
   | some m' =>
    rw [ht] at g2
    simp only at g2
    obtain ⟨rfl, rfl⟩ := g2
    simp only [if_true]
    obtain ⟨j, j1, j2⟩ := x84 (l := nx) (by omega) (kn m'.2)
    rw [j1, bS9, bS9]
    by_cases hj : kn m'.2 ∈ nx
    ·have := j2.2 hj
     rw [if_neg (by simp; omega), hw]
     refine .inl ⟨nx, rfl, by omega, fun k' => ?_⟩
     rw [hnx k', ht]
     constructor
     ·exact .inl
     ·rintro (h | ⟨m2, h3, h4⟩)
      ·exact h
      ·cases h3; rw [h4]; exact hj
    ·have : j < 0 := by
      rcases (show j < 0 \/ 0 <= j by omega) with h | h
      ·exact h
      ·exact absurd (j2.1 h) hj
     rw [if_pos (by simp; omega), b6x (by omega) (by simp) (by omega), bS9, hw]
     refine .inl ⟨nx ++ [kn m'.2], rfl, by simp; omega, fun k' => ?_⟩
     rw [hnx k', ht, List.mem_append, List.mem_singleton]
     constructor
     ·rintro (h | h)
      ·exact .inl h
      ·exact .inr ⟨m', rfl, h⟩
     ·rintro (h | ⟨m2, h3, h4⟩)
      ·exact .inl h
      ·cases h3; exact .inr h4) (fun nx ⟨i1, i2⟩ => by
   refine ⟨nx, ?_, i1, i2⟩
   unfold s9v
   simp only [Int.lt_irrefl, decide_false, fT9, if_false]) 0 (Nat.zero_le _) (s := next) ⟨by omega, fun k => by simp⟩
 exact ⟨b, h1, h2⟩
theorem u7n {rows : List (List r10_knot)} {row : List r10_knot} {t : Nat} (ht : t <= 6) (hr : rows[t]? = some row) (hrow : s8t a th l t row) :
  ∃ nx, b0w (s9w a th (toI l) ((nA a : Nat) : Int) rows (t : Int)) ([], 0) = some nx /\ s8t a th l (t + 1) nx := by
 have h4 := nA4 hs
 have hp4 := u00 ht
 obtain ⟨hlen, hmem⟩ := hrow
 obtain ⟨b, h1, h2⟩ := j7u (f := s9w a th (toI l) ((nA a : Nat) : Int) rows (t : Int)) row.length (fun s k => (s, k))
  (fun i nx => nx.length <= i * 4 /\ ∀ k, k ∈ nx ↔ ∃ j s, j < i /\ row[j]? = some (kn s) /\ ∃ y, y < nA a /\ ∃ m', TD a th l (t, s) y = some m' /\ k = kn m'.2)
  (fun nx => nx.length <= row.length * 4 /\ ∀ k, k ∈ nx ↔ ∃ j s, j < row.length /\ row[j]? = some (kn s) /\ ∃ y, y < nA a /\ ∃ m', TD a th l (t, s) y = some m' /\ k = kn m'.2) (fun nx i hi ⟨i1, i2⟩ => by
   obtain ⟨k, hk⟩ := b3b hi
   obtain ⟨s, hs1, rfl⟩ := (hmem k).1 (b1d.2 ⟨i, hk⟩)
   obtain ⟨hp, hD⟩ := u2f hs.ok hs1
   obtain ⟨nx', g1, g2, g3⟩ := u7m hs hth hl hl8 hr hk hp hD (next := nx) (by omega)
   unfold s9w
   simp only [b1h hr, bS9, Int.ofNat_lt, hi, decide_true, if_true, g1]
   unfold u14
   rw [b2r hi (by simp only [maxLen]; omega)]
   refine .inl ⟨nx', rfl, by omega, fun k' => ?_⟩
   rw [g3 k', i2 k']
   constructor
   ·rintro (⟨j, s2, q1, q2⟩ | h)
    ·exact ⟨j, s2, by omega, q2⟩
    ·exact ⟨i, s, by omega, hk, h⟩
   ·rintro ⟨j, s2, q1, q2, q3⟩
    by_cases e : j = i
    ·subst e
     rw [hk] at q2
     have := s9n (Option.some.inj q2)
     subst this
     exact .inr q3
    ·exact .inl ⟨j, s2, by omega, q2, q3⟩) (fun nx ⟨i1, i2⟩ => by
   refine ⟨nx, ?_, i1, i2⟩
   unfold s9w
   simp only [b1h hr, bS9, Int.lt_irrefl, decide_false, fT9, if_false]) 0 (Nat.zero_le _) (s := []) ⟨by simp, fun k => by simp⟩
 obtain ⟨g1, g2⟩ := h2
 refine ⟨b, h1, by rw [Nat.pow_succ]; omega, fun k => ?_⟩
 rw [g2 k]
 constructor
 ·rintro ⟨j, s, _, q2, y, q3, m', q4, q5⟩
  obtain ⟨s2, r1, r2⟩ := (hmem (kn s)).1 (b1d.2 ⟨j, q2⟩)
  have := s9n r2
  subst this
  obtain ⟨D', _, _, e⟩ := u1f q4
  refine ⟨m'.2, ⟨s, r1, y, q3, ?_⟩, q5⟩
  rw [q4, e]
 ·rintro ⟨s', ⟨s, r1, y, q3, q4⟩, q5⟩
  obtain ⟨j, hj⟩ := b1d.1 ((hmem (kn s)).2 ⟨s, r1, rfl⟩)
  exact ⟨j, s, b1k hj, hj, y, q3, _, q4, q5⟩
theorem u7l : ∃ rows, b0w (s9x a th (toI l) ((nA a : Nat) : Int)) ([[(r10_knot.mk (Place.mk 0 (0, 0)) 0)]], 0) = some rows /\ rows.length = tA a + 1 /\ ∀ t, t <= tA a -> ∃ row, rows[t]? = some row /\ s8t a th l t row := by
 have h6 := tA6 hs
 have hT := s9b hs.ok
 obtain ⟨b, h1, h2⟩ := j7u (f := s9x a th (toI l) ((nA a : Nat) : Int)) (tA a) (fun s k => (s, k))
  (fun t rows => rows.length = t + 1 /\ ∀ u, u <= t -> ∃ row, rows[u]? = some row /\ s8t a th l u row)
  (fun rows => rows.length = tA a + 1 /\ ∀ u, u <= tA a -> ∃ row, rows[u]? = some row /\ s8t a th l u row) (fun rows t ht ⟨i1, i2⟩ => by
   obtain ⟨row, hr, hrow⟩ := i2 t (Nat.le_refl _)
   obtain ⟨nx, g1, g2⟩ := u7n hs hth hl hl8 (by omega) hr hrow
   have htt : ((t : Int) < a.Ticks) := by omega
   unfold s9x
   simp only [htt, decide_true, if_true, g1, bS9]
   unfold u2c u2b
   rw [b6d (by omega) (by simp) (by omega), bS9, b2r ht (by simp only [maxLen]; omega)]
   refine .inl ⟨rows ++ [nx], rfl, by simp; omega, fun u hu => ?_⟩
   by_cases e : u = t + 1
   ·subst e
    exact ⟨nx, by rw [List.getElem?_append_right (by omega), i1]; simp, g2⟩
   ·obtain ⟨r2, q1, q2⟩ := i2 u (by omega)
    exact ⟨r2, by rw [List.getElem?_append_left (by omega)]; exact q1, q2⟩) (fun rows ⟨i1, i2⟩ => by
   refine ⟨rows, ?_, i1, i2⟩
   unfold s9x
   simp only [hT, Int.lt_irrefl, decide_false, fT9, if_false]) 0 (Nat.zero_le _) (s := [[(r10_knot.mk (Place.mk 0 (0, 0)) 0)]]) ⟨rfl, fun u hu => by
   have : u = 0 := by omega
   subst this
   refine ⟨[(r10_knot.mk (Place.mk 0 (0, 0)) 0)], rfl, by simp, fun k => ?_⟩
   rw [List.mem_singleton]
   constructor
   ·rintro rfl; exact ⟨(zero, 0), rfl, rfl⟩
   ·rintro ⟨s, h, rfl⟩
    have : s = (zero, 0) := h
    subst this; rfl⟩
 exact ⟨b, h1, h2⟩
omit hs hth hl8 in
theorem v01 (ha : OkA a) (hl8 : l.length <= 8) : ∃ W : Nat, b0w (s9y a (toI l)) (0, 0) = some (W : Int) /\ W < 2 ^ 8 /\ u0c (al a) (c49 l) a.Records.length W := by
 have hn8 := ha.n
 obtain ⟨b, h1, W, rfl, h2, h3⟩ := j7u (f := s9y a (toI l)) l.length (fun s k => (s, k))
  (fun k s => ∃ W : Nat, s = (W : Int) /\ W < 2 ^ 8 /\ ∀ j, W.testBit j = (decide (j ∈ l.take k) && !al a j))
  (fun s => ∃ W : Nat, s = (W : Int) /\ W < 2 ^ 8 /\ ∀ j, W.testBit j = (decide (j ∈ l) && !al a j)) (fun s k hk ⟨W, hW, i1, i2⟩ => by
   subst hW
   obtain ⟨i, hi⟩ := b3b hk
   have hin := hl i (mG9 hi)
   obtain ⟨r, hr, e, _⟩ := u2g ha hin
   have hAl : al a i = r.All := by unfold al; rw [e]
   have et : l.take (k + 1) = l.take k ++ [i] := by rw [List.take_add_one, hi]; rfl
   unfold s9y
   simp only [u5m hi, b1h hr, bS9, s95, Int.ofNat_lt, hk, decide_true, if_true]
   unfold u1a
   rw [b2r hk (c12 hl8), <- hAl]
   cases hA : al a i with
   | true =>
    rw [if_neg (by simp)]
    refine .inl ⟨_, rfl, W, rfl, i1, fun j => ?_⟩
    rw [i2 j, et]
    by_cases e : j = i
    ·subst e; simp [hA]
    ·simp [e]
   | false =>
    rw [if_pos (by simp), u4e (by omega), u1e (by omega), bS9, u22 (Nat.lt_of_lt_of_le i1 (by decide)) (u3z (by omega))]
    refine .inl ⟨_, rfl, W ||| 2 ^ i, rfl, u1d i1 (by omega), fun j => ?_⟩
    rw [u9m, i2 j, et]
    by_cases e : j = i
    ·subst e; simp [hA]
    ·simp [e]) (fun s ⟨W, hW, i1, i2⟩ => by
   subst hW
   rw [List.take_length] at i2
   refine ⟨_, ?_, W, rfl, i1, i2⟩
   unfold s9y
   simp only [s95, Int.lt_irrefl, decide_false, fT9, if_false]) 0 (Nat.zero_le _) (s := 0) ⟨0, rfl, Nat.two_pow_pos 8, fun j => by simp⟩
 refine ⟨W, h1, h2, fun j => ?_⟩
 rw [h3 j]
 by_cases hj : j ∈ l
 ·simp [hj, c49, hl j hj]
 ·simp [hj, c49]
end
end
end Go.Nw.UM
namespace Go.Nw.UM
noncomputable section
section
variable {a : Accident} {th : Theory} {l : List Nat} {want : Nat}
theorem u5h {t : Nat} {s : Place × Nat} {x : Nat} {m' : Nat × Place × Nat} (hr : Rch a th l t s) (hx : x < nA a) (h : TD a th l (t, s) x = some m') : m'.1 = t + 1 /\ Rch a th l (t + 1) m'.2 /\ m' = (t + 1, m'.2) := by
 obtain ⟨D', _, _, e⟩ := u1f h
 subst e
 exact ⟨rfl, ⟨s, hr, x, hx, h⟩, rfl⟩
theorem u8q (hs : Small a) {rows : List (List r10_knot)} {row : List r10_knot} (hr : rows[tA a]? = some row) (hrow : s8t a th l (tA a) row) :
  ∃ nx, b0w (s9z a rows (want : Int)) ([], 0) = some nx /\ r61 a th l want (tA a) nx := by
 have hp4 := u00 (tA6 hs)
 have hT := s9b hs.ok
 obtain ⟨hlen, hmem⟩ := hrow
 obtain ⟨b, h1, h2, h3⟩ := j7u (f := s9z a rows (want : Int)) row.length (fun s k => (s, k))
  (fun i nx => nx.length <= i /\ ∀ k, k ∈ nx ↔ ∃ j, j < i /\ row[j]? = some k /\ k.done = (want : Int))
  (fun nx => nx.length <= row.length /\ ∀ k, k ∈ nx ↔ ∃ j, j < row.length /\ row[j]? = some k /\ k.done = (want : Int)) (fun nx i hi ⟨i1, i2⟩ => by
   obtain ⟨k, hk⟩ := b3b hi
   unfold s9z
   simp only [<- hT, b1h hr, b1h hk, bS9, Int.ofNat_lt, hi, decide_true, if_true, u1x]
   unfold u09
   have hw : wr ((i : Int) + 1) = (i : Int) + 1 := b2r hi (by simp only [maxLen]; omega)
   by_cases c : k.done = (want : Int)
   ·rw [if_pos (by simp [c]), b6x (by omega) (by simp) (by omega), bS9, hw]
    refine .inl ⟨_, rfl, by simp; omega, fun k' => ?_⟩
    rw [List.mem_append, List.mem_singleton, i2 k']
    constructor
    ·rintro (⟨j, q1, q2⟩ | rfl)
     ·exact ⟨j, by omega, q2⟩
     ·exact ⟨i, by omega, hk, c⟩
    ·rintro ⟨j, q1, q2, q3⟩
     by_cases e : j = i
     ·subst e; rw [hk] at q2; cases q2; exact .inr rfl
     ·exact .inl ⟨j, by omega, q2, q3⟩
   ·rw [if_neg (by simp [c]), hw]
    refine .inl ⟨_, rfl, by omega, fun k' => ?_⟩
    rw [i2 k']
    constructor
    ·rintro ⟨j, q1, q2⟩; exact ⟨j, by omega, q2⟩
    ·rintro ⟨j, q1, q2, q3⟩
     by_cases e : j = i
     ·subst e; rw [hk] at q2; cases q2; exact absurd q3 c
     ·exact ⟨j, by omega, q2, q3⟩) (fun nx ⟨i1, i2⟩ => by
   refine ⟨nx, ?_, i1, i2⟩
   unfold s9z
   simp only [<- hT, b1h hr, bS9, Int.lt_irrefl, decide_false, fT9, if_false]) 0 (Nat.zero_le _) (s := []) ⟨by simp, fun k => by simp⟩
 refine ⟨b, h1, by omega, fun k => ?_⟩
 rw [h3 k]
 constructor
 ·rintro ⟨j, _, q2, q3⟩
  obtain ⟨s, r1, rfl⟩ := (hmem k).1 (b1d.2 ⟨j, q2⟩)
  refine ⟨s, r1, ⟨[], (u2y rfl).2 ⟨rfl, ?_⟩⟩, rfl⟩
  have : ((s.2 : Nat) : Int) = (want : Int) := q3
  show s.2 = want; omega
 ·rintro ⟨s, r1, ⟨w, hw⟩, rfl⟩
  obtain ⟨j, hj⟩ := b1d.1 ((hmem _).2 ⟨s, r1, rfl⟩)
  refine ⟨j, b1k hj, hj, ?_⟩
  have : s.2 = want := ((u2y (m := (tA a, s)) rfl).1 hw).2
  show ((s.2 : Nat) : Int) = _; rw [this]
variable (hs : Small a) (hth : OkT a th) (hl : ∀ i ∈ l, i < a.Records.length) (hl8 : l.length <= 8)
include hs hth hl hl8
theorem u7d {rows : List (List r10_knot)} {row nrow : List r10_knot} {t i : Nat} {s : Place × Nat} (ht : t < tA a) (hr : rows[t]? = some row) (hi : row[i]? = some (kn s)) (hn : rows[t + 1]? = some nrow) (hnrow : r61 a th l want (t + 1) nrow) (hR : Rch a th l t s) :
  ∃ b, b0w (s90 a th (toI l) ((nA a : Nat) : Int) rows (t : Int) (i : Int)) (false, 0) = some b /\ (b = true ↔ b64 a th l want (t, s)) := by
 have h4 := nA4 hs
 have h6 := tA6 hs
 have hp4 := u00 (show t + 1 <= 6 by omega)
 obtain ⟨hlen, hmem⟩ := hnrow
 obtain ⟨hp, hD⟩ := u2f hs.ok hR
 rw [u5b (m := (t, s)) ht]
 obtain ⟨b, h1, h2⟩ := j7u (f := s90 a th (toI l) ((nA a : Nat) : Int) rows (t : Int) (i : Int)) (nA a) (fun s k => (s, k))
  (fun x b => b = true ↔ ∃ y, y < x /\ ∃ m', TD a th l (t, s) y = some m' /\ b64 a th l want m')
  (fun b => b = true ↔ ∃ y, y < nA a /\ ∃ m', TD a th l (t, s) y = some m' /\ b64 a th l want m') (fun b x hx i1 => by
   have hxx : ((x : Int) < ((nA a : Nat) : Int)) := by omega
   unfold s90
   dsimp only
   cases b with
   | true =>
    rw [if_neg (by simp)]
    refine .inr ⟨true, rfl, fun _ => ?_, fun _ => rfl⟩
    obtain ⟨y, hy, q⟩ := i1.1 rfl
    exact ⟨y, by omega, q⟩
   | false =>
    rw [if_pos (by simp [hxx])]
    obtain ⟨k, b, g1, g2⟩ := u4d (m := (t, s)) hs.ok hth hl hl8 hp hD hx
    have hwt : wr ((t : Int) + 1) = ((t + 1 : Nat) : Int) := by rw [b3t (by omega) (by omega)]; simp
    simp only [b1h hr, b1h hi, bS9, u1x, hwt, b1h hn]
    rw [show l97 a th (toI l) (t : Int) (kn s) (x : Int) = _ from g1, bS9, b2r hx (by simp only [maxLen]; omega)]
    have hno : ¬ ∃ y, y < x /\ ∃ m', TD a th l (t, s) y = some m' /\ b64 a th l want m' := fun q => by have := i1.2 q; cases this
    cases htd : TD a th l (t, s) x with
    | none =>
     rw [htd] at g2
     simp only at g2
     subst g2
     simp only [fT9, if_false, bS9]
     refine .inl ⟨false, rfl, ⟨(fun h => by cases h), ?_⟩⟩
     rintro ⟨y, hy, m', q1, q2⟩
     by_cases e : y = x
     ·subst e; rw [htd] at q1; cases q1
     ·exact absurd ⟨y, by omega, m', q1, q2⟩ hno
    | some m' =>
     rw [htd] at g2
     simp only at g2
     obtain ⟨rfl, rfl⟩ := g2
     simp only [if_true]
     obtain ⟨j, j1, j2⟩ := x84 (l := nrow) (by omega) (kn m'.2)
     rw [j1, bS9, bS9]
     obtain ⟨_, q2, q3⟩ := u5h hR hx htd
     have hin : kn m'.2 ∈ nrow ↔ b64 a th l want m' := by
      rw [hmem]
      constructor
      ·rintro ⟨s', r1, r2, r3⟩
       rw [q3, s9n r3]; exact r2
      ·intro h
       exact ⟨m'.2, q2, by rw [<- q3]; exact h, rfl⟩
     refine .inl ⟨_, rfl, ?_⟩
     rw [decide_eq_true_eq, j2, hin]
     constructor
     ·intro h; exact ⟨x, by omega, m', htd, h⟩
     ·rintro ⟨y, hy, m2, r1, r2⟩
      by_cases e : y = x
      ·subst e; rw [htd] at r1; cases r1; exact r2
      ·exact absurd ⟨y, by omega, m2, r1, r2⟩ hno) (fun b i1 => by
   refine ⟨b, ?_, i1⟩
   unfold s90
   dsimp only
   rw [if_neg (by simp)]) 0 (Nat.zero_le _) (s := false) (by simp)
 exact ⟨b, h1, h2⟩
theorem u6l {rows : List (List r10_knot)} {row nrow : List r10_knot} {t : Nat} (ht : t < tA a) (hr : rows[t]? = some row) (hrow : s8t a th l t row) (hn : rows[t + 1]? = some nrow) (hnrow : r61 a th l want (t + 1) nrow) :
  ∃ nx, b0w (s91 a th (toI l) ((nA a : Nat) : Int) rows (t : Int)) ([], 0) = some nx /\ r61 a th l want t nx := by
 have h6 := tA6 hs
 have hp4 := u00 (show t <= 6 by omega)
 obtain ⟨hlen, hmem⟩ := hrow
 obtain ⟨b, h1, h2, h3⟩ := j7u (f := s91 a th (toI l) ((nA a : Nat) : Int) rows (t : Int)) row.length (fun s k => (s, k))
  (fun i nx => nx.length <= i /\ ∀ k, k ∈ nx ↔ ∃ j s, j < i /\ row[j]? = some (kn s) /\ b64 a th l want (t, s) /\ k = kn s)
  (fun nx => nx.length <= row.length /\ ∀ k, k ∈ nx ↔ ∃ j s, j < row.length /\ row[j]? = some (kn s) /\ b64 a th l want (t, s) /\ k = kn s) (fun nx i hi ⟨i1, i2⟩ => by
   obtain ⟨k, hk⟩ := b3b hi
   obtain ⟨s, hs1, rfl⟩ := (hmem k).1 (b1d.2 ⟨i, hk⟩)
   obtain ⟨b, g1, g2⟩ := u7d hs hth hl hl8 ht hr hk hn hnrow hs1
   have hw : wr ((i : Int) + 1) = (i : Int) + 1 := b2r hi (by simp only [maxLen]; omega)
   unfold s91
   simp only [b1h hr, bS9, Int.ofNat_lt, hi, decide_true, if_true, g1]
   unfold u17 u08
   cases b with
   | true =>
    simp only [if_true, b1h hr, b1h hk, bS9, u1x]
    rw [b6x (by omega) (by simp) (by omega), bS9, hw]
    refine .inl ⟨_, rfl, by simp; omega, fun k' => ?_⟩
    rw [List.mem_append, List.mem_singleton, i2 k']
    constructor
    ·rintro (⟨j, s2, q1, q2⟩ | rfl)
     ·exact ⟨j, s2, by omega, q2⟩
     ·exact ⟨i, s, by omega, hk, g2.1 rfl, rfl⟩
    ·rintro ⟨j, s2, q1, q2, q3, q4⟩
     by_cases e : j = i
     ·subst e; rw [hk] at q2; rw [q4]; exact .inr (Option.some.inj q2).symm
     ·exact .inl ⟨j, s2, by omega, q2, q3, q4⟩
   | false =>
    simp only [fT9, if_false]
    rw [hw]
    refine .inl ⟨_, rfl, by omega, fun k' => ?_⟩
    rw [i2 k']
    constructor
    ·rintro ⟨j, s2, q1, q2⟩; exact ⟨j, s2, by omega, q2⟩
    ·rintro ⟨j, s2, q1, q2, q3, q4⟩
     by_cases e : j = i
     ·subst e; rw [hk] at q2
      rw [<- s9n (Option.some.inj q2)] at q3
      have := g2.2 q3; cases this
     ·exact ⟨j, s2, by omega, q2, q3, q4⟩) (fun nx ⟨i1, i2⟩ => by
   refine ⟨nx, ?_, i1, i2⟩
   unfold s91
   simp only [b1h hr, bS9, Int.lt_irrefl, decide_false, fT9, if_false]) 0 (Nat.zero_le _) (s := []) ⟨by simp, fun k => by simp⟩
 refine ⟨b, h1, by omega, fun k => ?_⟩
 rw [h3 k]
 constructor
 ·rintro ⟨j, s, _, q2, q3, q4⟩
  obtain ⟨s2, r1, r2⟩ := (hmem _).1 (b1d.2 ⟨j, q2⟩)
  rw [<- s9n r2] at r1
  exact ⟨s, r1, q3, q4⟩
 ·rintro ⟨s, r1, r2, rfl⟩
  obtain ⟨j, hj⟩ := b1d.1 ((hmem _).2 ⟨s, r1, rfl⟩)
  exact ⟨j, s, b1k hj, hj, r2, rfl⟩
theorem u5a : ∃ (W : Nat) (rows : List (List r10_knot)), u0c (al a) (c49 l) a.Records.length W /\ s9u a th (toI l) = some rows /\ rows.length = tA a + 1 /\ ∀ t, t <= tA a -> ∃ row, rows[t]? = some row /\ r61 a th l W t row := by
 have h6 := tA6 hs
 have hT := s9b hs.ok
 obtain ⟨rows, f1, f2, f3⟩ := u7l hs hth hl hl8
 obtain ⟨W, w1, w2, w3⟩ := v01 hl hs.ok hl8
 obtain ⟨rowT, r1, r2⟩ := f3 (tA a) (Nat.le_refl _)
 obtain ⟨last, l1, l2⟩ := u8q (want := W) hs r1 r2
 have hset : (rows.set (tA a) last)[tA a]? = some last := by rw [List.getElem?_set_self (by omega)]
 obtain ⟨b, h1, h2⟩ := j7u (f := u06 a th (toI l) ((nA a : Nat) : Int)) (tA a) (fun (s : List (List r10_knot)) (k : Int) => (s, (tA a : Int) - 1 - k))
  (fun k rows => rows.length = tA a + 1 /\ (∀ u, u + k < tA a -> ∃ row, rows[u]? = some row /\ s8t a th l u row) /\ ∀ u, u <= tA a -> tA a <= u + k -> ∃ row, rows[u]? = some row /\ r61 a th l W u row)
  (fun rows => rows.length = tA a + 1 /\ ∀ u, u <= tA a -> ∃ row, rows[u]? = some row /\ r61 a th l W u row) (fun rows k hk ⟨i1, i2, i3⟩ => by
   obtain ⟨t, ht⟩ : ∃ t, t + k + 1 = tA a := ⟨tA a - 1 - k, by omega⟩
   have et : (tA a : Int) - 1 - (k : Int) = (t : Int) := by omega
   obtain ⟨row, hr, hrow⟩ := i2 t (by omega)
   obtain ⟨nrow, hn, hnrow⟩ := i3 (t + 1) (by omega) (by omega)
   obtain ⟨nx, g1, g2⟩ := u6l hs hth hl hl8 (by omega) hr hrow hn hnrow
   have h0 : (0 : Int) <= (t : Int) := by omega
   rw [et]
   unfold u06
   simp only [h0, decide_true, if_true, g1, bS9]
   unfold u16 u15
   rw [b1h hr, bS9, Int.toNat_natCast, b3t (by omega) (by omega)]
   refine .inl ⟨rows.set t nx, by congr 2; congr 1; omega, by rw [List.length_set]; exact i1, fun u hu => ?_, fun u hu hu2 => ?_⟩
   ·obtain ⟨r, q1, q2⟩ := i2 u (by omega)
    exact ⟨r, by rw [List.getElem?_set_ne (by omega)]; exact q1, q2⟩
   ·by_cases e : u = t
    ·subst e
     exact ⟨nx, by rw [List.getElem?_set_self (by omega)], g2⟩
    ·obtain ⟨r, q1, q2⟩ := i3 u hu (by omega)
     exact ⟨r, by rw [List.getElem?_set_ne (fun q => e q.symm)]; exact q1, q2⟩) (fun rows ⟨i1, i2, i3⟩ => by
   refine ⟨rows, ?_, i1, fun u hu => i3 u hu (by omega)⟩
   have e1 : ¬ (0 : Int) <= (tA a : Int) - 1 - ((tA a : Nat) : Int) := by omega
   unfold u06
   simp only [e1, decide_false, fT9, if_false]) 0 (Nat.zero_le _) (s := rows.set (tA a) last) ⟨by rw [List.length_set]; exact f2, fun u hu => by
    obtain ⟨r, q1, q2⟩ := f3 u (by omega)
    exact ⟨r, by rw [List.getElem?_set_ne (by omega)]; exact q1, q2⟩, fun u hu hu2 => by
    have : u = tA a := by omega
    subst this
    exact ⟨last, hset, l2⟩⟩
 obtain ⟨g1, g2⟩ := h2
 refine ⟨W, b, w3, ?_, g1, g2⟩
 unfold s9u
 rw [u5e hs.ok, bS9, f1, bS9]
 unfold u18
 rw [w1, bS9]
 unfold u19
 rw [l1, bS9]
 unfold u2a
 rw [<- hT, b1h r1, bS9, Int.toNat_natCast, b3t (by omega) (by omega)]
 rw [show ((rows.set (tA a) last, (tA a : Int) - 1) : List (List r10_knot) × Int) = (rows.set (tA a) last, (tA a : Int) - 1 - ((0 : Nat) : Int)) by simp, h1]
 rfl
theorem u89 : ∃ b, s88 a th (toI l) = some b /\ (b = true ↔ ∃ w, l27 (fr a) (to a) (al a) (c49 l) (hold a) (stA a th) (okA a ftT) (nA a) (tA a) a.Records.length zero w) := by
 obtain ⟨W, rows, h1, h2, h3, h4⟩ := u5a hs hth hl hl8
 obtain ⟨row, r1, _, r2⟩ := h4 0 (Nat.zero_le _)
 unfold s88
 have hg : get rows 0 = some row := b1h (k := 0) r1
 rw [h2, bS9, hg, bS9]
 refine ⟨_, rfl, ?_⟩
 rw [decide_eq_true_eq]
 constructor
 ·intro h
  cases row with
  | nil => simp at h
  | cons k ks =>
   obtain ⟨s, q1, ⟨w, q2⟩, q3⟩ := (r2 k).1 (List.mem_cons_self ..)
   have : s = (zero, 0) := q1
   subst this
   exact ⟨w, (u3b h1).1 q2⟩
 ·rintro ⟨w, hw⟩
  have : kn (zero, 0) ∈ row := (r2 _).2 ⟨(zero, 0), rfl, ⟨w, (u3b h1).2 hw⟩, rfl⟩
  have := List.length_pos_of_mem this
  omega
end
end
end Go.Nw.UM
namespace Go.Nw
section
variable {π : Type} {From To : Nat -> Nat} {Al keep keep' : Nat -> Bool} {hold : Nat -> π -> Nat -> Bool} {st : Nat -> π -> Nat -> π} {ok ok' : Nat -> π -> Nat -> Bool} {N T n : Nat}
theorem u3c {p0 : π} (hk : ∀ i, i < n -> keep i = keep' i) {xs : List Nat} : l27 From To Al keep hold st ok N T n p0 xs ↔ l27 From To Al keep' hold st ok N T n p0 xs := by
 unfold l27
 refine and_congr_right fun _ => and_congr_right fun _ => ⟨fun h i hi hk' => h i hi (by rw [hk i hi]; exact hk'), fun h i hi hk' => h i hi (by rw [<- hk i hi]; exact hk')⟩
theorem u8u {P Q : List Nat -> Prop} (h : ∀ w, P w ↔ Q w) {w : List Nat} (hw : Lst P w) : Lst Q w := ⟨(h w).1 hw.1, fun l hl => hw.2 l ((h l).2 hl)⟩
end
end Go.Nw
namespace Go.Nw.UM
noncomputable section
abbrev l18 (a : Accident) (th : Theory) (keep : Nat -> Bool) (ft : Nat -> Place -> Nat -> Bool) : List Nat -> Prop := l27 (fr a) (to a) (al a) keep (hold a) (stA a th) (okA a ft) (nA a) (tA a) a.Records.length zero
theorem u35 {a : Accident} (hn : a.Records.length <= 10) : s8s a = some (toI (List.range a.Records.length)) := by
 unfold s8s u2d
 rw [b4h (f := u1b a) a.Records.length (fun s k => (s, k)) (fun k => toI (List.range k)) (toI (List.range a.Records.length)) (s0 := []) rfl (fun k hk => by
   unfold u1b
   simp only [Int.ofNat_lt, hk, decide_true, if_true]
   rw [b6d (by rw [s95, List.length_range]; omega) (by simp) (by omega), bS9, b2r hk (c12 hn)]
   congr 3
   unfold toI; rw [List.range_succ, List.map_append]; rfl) (by
   unfold u1b
   simp only [Int.lt_irrefl, decide_false, fT9, if_false])]
 rfl
theorem u3w {n i : Nat} (hi : i < n) : c49 (List.range n) i = true := by unfold c49; simp [hi]
section
variable {a : Accident} {th : Theory} {want : Nat}
theorem u8t {l : List Nat} {m m' : Nat × Place × Nat} {x : Nat} {w : List Nat} (hm : m.1 < tA a) (hx : x < nA a) (ht : TD a th l m x = some m') (hw : Lst (fun w => AcD a th l want w m') w)
  (hb : ∀ y, y < x -> ∀ m2, TD a th l m y = some m2 -> ¬ b64 a th l want m2) : Lst (fun w => AcD a th l want w m) (x :: w) := by
 refine ⟨(u1t hm).2 ⟨hx, m', ht, hw.1⟩, fun l2 hl2 => ?_⟩
 cases l2 with
 | nil => unfold AcD at hl2; rw [Acc] at hl2; unfold c40 at hl2; simp at hl2; omega
 | cons y ys =>
  obtain ⟨_, m2, h1, h2⟩ := (u1t hm).1 hl2
  rcases Nat.lt_trichotomy x y with h | h | h
  ·exact .inl h
  ·subst h; rw [ht] at h1; cases h1; exact .inr ⟨rfl, hw.2 ys h2⟩
  ·exact absurd ⟨ys, h2⟩ (hb y h m2 h1)
variable (hs : Small a) (hth : OkT a th)
include hs hth
theorem u7e {rows : List (List r10_knot)} {nrow : List r10_knot} {t : Nat} {s : Place × Nat} (ht : t < tA a) (hn : rows[t + 1]? = some nrow) (hnrow : r61 a th (List.range a.Records.length) want (t + 1) nrow) (hR : Rch a th (List.range a.Records.length) t s) (hL : b64 a th (List.range a.Records.length) want (t, s)) {out : List Int} (ho : out.length <= t) :
  ∃ (x : Nat) (s' : Place × Nat), b0w (u04 a th rows out s.1.State s.1.Values.1 s.1.Values.2 (s.2 : Int) (t : Int)) 0 = some (out ++ [(x : Int)], s'.1.State, s'.1.Values.1, s'.1.Values.2, ((s'.2 : Nat) : Int)) /\ x < nA a /\ TD a th (List.range a.Records.length) (t, s) x = some (t + 1, s') /\ b64 a th (List.range a.Records.length) want (t + 1, s') /\
   ∀ y, y < x -> ∀ m2, TD a th (List.range a.Records.length) (t, s) y = some m2 -> ¬ b64 a th (List.range a.Records.length) want m2 := by
 have h4 := nA4 hs
 have h6 := tA6 hs
 have hn8 := hs.ok.n
 have hp4 := u00 (show t + 1 <= 6 by omega)
 obtain ⟨hlen, hmem⟩ := hnrow
 obtain ⟨hp, hD⟩ := u2f hs.ok hR
 obtain ⟨b, h1, h2⟩ := j7u (f := u04 a th rows out s.1.State s.1.Values.1 s.1.Values.2 (s.2 : Int) (t : Int)) (nA a) (fun (_ : Unit) k => k)
  (fun x _ => ∀ y, y < x -> ∀ m2, TD a th (List.range a.Records.length) (t, s) y = some m2 -> ¬ b64 a th (List.range a.Records.length) want m2)
  (fun b => ∃ (x : Nat) (s' : Place × Nat), b = (out ++ [(x : Int)], s'.1.State, s'.1.Values.1, s'.1.Values.2, ((s'.2 : Nat) : Int)) /\ x < nA a /\ TD a th (List.range a.Records.length) (t, s) x = some (t + 1, s') /\ b64 a th (List.range a.Records.length) want (t + 1, s') /\
   ∀ y, y < x -> ∀ m2, TD a th (List.range a.Records.length) (t, s) y = some m2 -> ¬ b64 a th (List.range a.Records.length) want m2) (fun _ x hx i1 => by
   have hxx : ((x : Int) < ((nA a : Nat) : Int)) := by omega
   obtain ⟨k, b, g1, g2⟩ := u4d (l := List.range a.Records.length) (m := (t, s)) hs.ok hth (fun i hi => List.mem_range.1 hi) (by rw [List.length_range]; exact hn8) hp hD hx
   have hwt : wr ((t : Int) + 1) = ((t + 1 : Nat) : Int) := by rw [b3t (by omega) (by omega)]; simp
   have hw : wr ((x : Int) + 1) = (x : Int) + 1 := b2r hx (by simp only [maxLen]; omega)
   have skip : (∀ m2, TD a th (List.range a.Records.length) (t, s) x = some m2 -> ¬ b64 a th (List.range a.Records.length) want m2) -> ∀ y, y < x + 1 -> ∀ m2, TD a th (List.range a.Records.length) (t, s) y = some m2 -> ¬ b64 a th (List.range a.Records.length) want m2 := fun h y hy m2 => by
    by_cases e : y = x
    ·subst e; exact h m2
    ·exact i1 y (by omega) m2
   unfold u04
   rw [u5e hs.ok]
   simp only [bS9, hxx, decide_true, if_true, u35 (show a.Records.length <= 10 by omega), hwt, b1h hn]
   rw [show l97 a th (toI (List.range a.Records.length)) (t : Int) (r10_knot.mk (Place.mk s.1.State (s.1.Values.1, s.1.Values.2)) (s.2 : Int)) (x : Int) = _ from g1, bS9]
   cases htd : TD a th (List.range a.Records.length) (t, s) x with
   | none =>
    rw [htd] at g2
    simp only at g2
    subst g2
    rw [if_neg (by simp), bS9, if_neg (by simp), hw]
    exact .inl ⟨(), rfl, skip fun m2 h => by rw [htd] at h; cases h⟩
   | some m' =>
    rw [htd] at g2
    simp only at g2
    obtain ⟨rfl, rfl⟩ := g2
    simp only [if_true]
    obtain ⟨j, j1, j2⟩ := x84 (l := nrow) (by omega) (kn m'.2)
    obtain ⟨_, q2, q3⟩ := u5h hR hx htd
    rw [show s8y nrow (r10_knot.mk (Place.mk (kn m'.2).place.State ((kn m'.2).place.Values.1, (kn m'.2).place.Values.2)) (kn m'.2).done) = _ from j1, bS9, bS9]
    have hin : kn m'.2 ∈ nrow ↔ b64 a th (List.range a.Records.length) want m' := by
     rw [hmem]
     constructor
     ·rintro ⟨s', r1, r2, r3⟩
      rw [q3, s9n r3]; exact r2
     ·intro h
      exact ⟨m'.2, q2, by rw [<- q3]; exact h, rfl⟩
    by_cases c : b64 a th (List.range a.Records.length) want m'
    ·rw [if_pos (by rw [decide_eq_true_eq, j2, hin]; exact c), b6d (by omega) (by simp) (by omega), bS9]
     exact .inr ⟨_, rfl, x, m'.2, rfl, hx, htd.trans (congrArg some q3), by rw [<- q3]; exact c, i1⟩
    ·rw [if_neg (by rw [decide_eq_true_eq, j2, hin]; exact c), hw]
     exact .inl ⟨(), rfl, skip fun m2 h => by rw [htd] at h; cases h; exact c⟩) (fun _ i1 => by
   obtain ⟨x, q1, m', q2, q3⟩ := (u5b (m := (t, s)) ht).1 hL
   exact absurd q3 (i1 x q1 m' q2)) 0 (Nat.zero_le _) (s := ()) (fun y hy => by omega)
 obtain ⟨x, s', rfl, h3⟩ := h2
 exact ⟨x, s', h1, h3⟩
theorem u43 {rows : List (List r10_knot)} (hrows : ∀ t, t <= tA a -> ∃ row, rows[t]? = some row /\ r61 a th (List.range a.Records.length) want t row) :
  ∀ (d t : Nat) (s : Place × Nat) (out : List Int), t + d = tA a -> Rch a th (List.range a.Records.length) t s -> b64 a th (List.range a.Records.length) want (t, s) -> out.length = t ->
   ∃ w, Lst (fun w => AcD a th (List.range a.Records.length) want w (t, s)) w /\ b0w (s85 a th rows) (out, s.1.State, s.1.Values.1, s.1.Values.2, ((s.2 : Nat) : Int), (t : Int)) = some (out ++ toI w)
 | 0, t, s, out, ht, hR, hL, ho => by
  have hT := s9b hs.ok
  have e : t = tA a := by omega
  subst e
  obtain ⟨w, hw⟩ := hL
  have := ((u2y (m := (tA a, s)) rfl).1 hw).1
  subst this
  refine ⟨[], ⟨hw, fun _ _ => trivial⟩, b3d ?_⟩
  unfold s85
  rw [<- hT]
  simp only [Int.lt_irrefl, decide_false, fT9, if_false, toI, List.map_nil, List.append_nil]
 | d + 1, t, s, out, ht, hR, hL, ho => by
  have hT := s9b hs.ok
  have h6 := tA6 hs
  obtain ⟨nrow, hn, hnrow⟩ := hrows (t + 1) (by omega)
  obtain ⟨x, s', g1, g2, g3, g4, g5⟩ := u7e hs hth (by omega) hn hnrow hR hL (out := out) (by omega)
  obtain ⟨w, w1, w2⟩ := u43 hrows d (t + 1) s' (out ++ [(x : Int)]) (by omega) ⟨s, hR, x, g2, g3⟩ g4 (by simp; omega)
  refine ⟨x :: w, u8t (by show t < tA a; omega) g2 g3 w1 g5, ?_⟩
  have hlt : (t : Int) < a.Ticks := by omega
  have hstep : s85 a th rows (out, s.1.State, s.1.Values.1, s.1.Values.2, ((s.2 : Nat) : Int), (t : Int)) = some (.nx (out ++ [(x : Int)], s'.1.State, s'.1.Values.1, s'.1.Values.2, ((s'.2 : Nat) : Int), ((t + 1 : Nat) : Int))) := by
   unfold s85
   simp only [hlt, decide_true, if_true, g1, bS9]
   unfold u12
   rw [b3t (by omega) (by omega)]; simp
  rw [w91 hstep, w2]
  simp [toI]
theorem u6g (hf : ∀ n ∈ b3g a.Machine, n.size <= maxLen) : (∃ w, Lst (l18 a th (fun _ => true) ftT) w /\ (toI w).length = tA a /\ s8x a th = some (toI w, 0)) \/ ((∀ w, ¬ l18 a th (fun _ => true) ftT w) /\ s8x a th = some ([], 3)) := by
 have hn8 := hs.ok.n
 have hcong : ∀ w, l18 a th (c49 (List.range a.Records.length)) ftT w ↔ l18 a th (fun _ => true) ftT w := fun w => u3c fun i hi => u3w hi
 obtain ⟨W, rows, h1, h2, h3, h4⟩ := u5a (l := List.range a.Records.length) hs hth (fun i hi => List.mem_range.1 hi) (by rw [List.length_range]; exact hn8)
 obtain ⟨row, r1, _, r2⟩ := h4 0 (Nat.zero_le _)
 have hg : get rows 0 = some row := b1h (k := 0) r1
 unfold s8x
 have hck : y9g a th = some 0 := by rw [u24 hf (by omega), u27.2 ⟨hs.ok, hth⟩]
 rw [hck, bS9, if_neg (by simp), u35 (by omega), bS9, h2, bS9, hg, bS9]
 have hiff : ∀ w, AcD a th (List.range a.Records.length) W w (0, zero, 0) ↔ l18 a th (fun _ => true) ftT w := fun w => (u3b h1).trans (hcong w)
 by_cases hL : b64 a th (List.range a.Records.length) W (0, (zero, 0))
 ·have hin : kn (zero, 0) ∈ row := (r2 _).2 ⟨(zero, 0), rfl, hL, rfl⟩
  have hpos := List.length_pos_of_mem hin
  rw [if_neg (by simp; intro h; rw [h] at hpos; simp at hpos)]
  obtain ⟨w, w1, w2⟩ := u43 hs hth h4 (tA a) 0 (zero, 0) [] (by omega) rfl hL rfl
  have w2' : b0w (s85 a th rows) ([], 0, 0, 0, 0, 0) = some (toI w) := w2
  rw [w2', bS9]
  refine .inl ⟨w, u8u hiff w1, ?_, rfl⟩
  rw [s95]; exact ((hiff w).1 w1.1).1
 ·have he : row = [] := by
   cases row with
   | nil => rfl
   | cons k ks =>
    obtain ⟨s, q1, q2, q3⟩ := (r2 k).1 (List.mem_cons_self ..)
    have : s = (zero, 0) := q1
    subst this
    exact absurd q2 hL
  rw [if_pos (by simp [he])]
  exact .inr ⟨fun w hw => hL ⟨w, (hiff w).2 hw⟩, rfl⟩
end
end
end Go.Nw.UM
namespace Go.Nw.UM
noncomputable section
def o8f (m : Machine) (c : List (List Literal)) (hd : Nat -> Int) : Place -> List Nat -> Place -> Prop
 | p, [], q => p = q
 | p, x :: l, q => x < 2 ^ m.Inputs.length /\ c25 m p x c = true /\ o8f m c hd (nxt m p (hd x)) l q
structure Tr (m : Machine) (c : List (List Literal)) (hd : Nat -> Int) (s : S3) : Prop where
 z : s.1[0]? = some zero
 b : s.2.1[0]? = some (-1)
 t : ∀ (k : Nat) q, 1 <= k -> s.1[k]? = some q -> ∃ (b x : Nat) (p : Place), s.2.1[k]? = some (b : Int) /\ s.2.2[k]? = some (x : Int) /\ b < k /\ x < 2 ^ m.Inputs.length /\ s.1[b]? = some p /\ c25 m p x c = true /\ q = nxt m p (hd x)
section
variable {m : Machine} {c : List (List Literal)} {hd : Nat -> Int}
end
end
end Go.Nw.UM
namespace Go.Nw.UM
noncomputable section
section
variable {m : Machine} {c : List (List Literal)} {hd : Nat -> Int}
end
end
end Go.Nw.UM
namespace Go.Nw.UM
noncomputable section
abbrev idn : Nat -> Int := fun x => (x : Int)
section
variable (m : Machine) (c : List (List Literal)) (P : List Place)
def hit (cur : List Bool) (i : Nat) : Bool := (List.range (2 ^ m.Inputs.length)).any fun j => c25 m (P.getD i zero) j c && cur.getD (P.idxOf (nxt m (P.getD i zero) (idn j))) false
end
section
variable {m : Machine} {c : List (List Literal)} {P : List Place}
end
def d17 (m : Machine) (c rest : List (List Literal)) (p : Place) : Prop := ∃ l q, o8f m c idn p l q /\ b46 m q 0 rest = true
structure Calm (m : Machine) (c rest : List (List Literal)) (P : List Place) (cur : List Bool) : Prop where
 n : cur.length = P.length
 s : ∀ i, i < P.length -> cur.getD i false = true -> d17 m c rest (P.getD i zero)
 r : ∀ i, i < P.length -> b46 m (P.getD i zero) 0 rest = true -> cur.getD i false = true
section
variable {m : Machine} {c rest : List (List Literal)} {P : List Place}
end
section
variable {m : Machine} {c rest : List (List Literal)} {K : Nat}
end
end
end Go.Nw.UM
