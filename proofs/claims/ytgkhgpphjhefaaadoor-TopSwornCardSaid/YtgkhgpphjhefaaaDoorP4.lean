/- Plain laws on the models. -/
import Derived.Test.YtgkhgpphjhefaaaDoorP2
import Derived.Test.YtgkhgpphjhefaaaDoorP3
import Derived.Test.YtgkhgpphjhefaaaDoorKUM1
set_option linter.all false
namespace Go.Nw.UM
open Go.Nw.Tp2
set_option maxHeartbeats 4000000
theorem u7p {h : Heap} {v : AV} {l : List Int} (hv : l70 h v l) : Fz h v (.fs 1 (List.map eI l)) := by
 rcases hv with ⟨rfl, rfl⟩ | ⟨id, rest, rfl, ho, _⟩
 ·exact .nil 1
 ·refine .rs id 0 _ 1 _ _ ho (by simp) (by simp) (fun d hd => ?_) (fun i j c d h1 h2 => ?_)
  ·obtain ⟨a, _, rfl⟩ := List.mem_map.1 hd; rfl
  ·rw [Nat.zero_add] at h1
   have hi : i < l.length := by
    unfold at2 at h2
    obtain ⟨e, he, _⟩ := bE9.1 h2
    have := (gS9.1 he).1; simpa using this
   have e1 : at2 (List.map eI l ++ rest) i j = at2 (List.map eI l) i j := by
    unfold at2; rw [List.getElem?_append_left (by simpa using hi)]
   rw [e1, h2] at h1; cases h1
   obtain ⟨e, he, hc⟩ := b9m h2
   have hm := mG9 he
   obtain ⟨a, _, rfl⟩ := List.mem_map.1 hm
   exact .refl _ (b1t a _ (mG9 hc))
theorem x09 {n : String} {a b : List AV} {k : List AV -> Prop} : @b7b (.fn n a b) ⟨k⟩ = k [.fn n a b] := by
 show b4e _ _ = _
 simp [b4e, b2d, cellsOf]
theorem u82 {n : Nat} : b2d (.mp n) = true := rfl
theorem u81 {n : Nat} : cellsOf (.mp n) = [.mp n] := rfl
variable {O : Orac} [MapsOk O] [DynOk O]
def l64 (a : Accident) (t : Theory) : faults_inquiry := ⟨a, ⟨a.Machine⟩, t⟩
theorem u9j (kC : ∀ k, s96 O k) {a : Accident} {t_ : Theory} {keep_n : String} {keep_a keep_b : List AV} {keep : Kp} (keep_z : Frz (.fn keep_n keep_a keep_b)) (keep_h : ∀ z0 y, keep z0 = some y -> Fn O keep_n (keep_a ++ [I z0] ++ keep_b) (B y))
  {fits_n : String} {fits_a fits_b : List AV} {fits : Ft} (fits_z : Frz (.fn fits_n fits_a fits_b)) (fits_h : ∀ z0 z1 z2 y, fits z0 z1 z2 = some y -> Fn O fits_n (fits_a ++ [I z0, .agg [I z1.State, I z1.Values.1, I z1.Values.2], I z2] ++ fits_b) (B y))
  {r : List Int × Bool} (hm0 : s89 a t_ keep fits = some r) {L : AV} (hL : L = .fs 1 (List.map eI r.1) \/ L = .dead) {t : Slots} {h : Heap} {iq im : Nat} (s8 : t 8 = .rp iq 0 0) (H : IQ h iq im nilS (l64 a t_) (.fn keep_n keep_a keep_b) (.fn fits_n fits_a fits_b) [] []) :
  cw O (.seq (.seq (.reg u5s) (.cond (.t 38) (.seq (.reg u5t) .ret) .skip)) (.seq (.reg u5u) .ret)) (c4n [.t 6, .t 7] (.tup [L, B r.2]) []) t h := by
 unfold s89 at hm0
 obtain ⟨rr, hr, hm0⟩ := b0g hm0
 obtain rfl := Option.some.inj hm0
 refine b0v ?_
 refine b2p (fun t h => ∃ v', t 8 = .rp iq 0 0 /\ t 38 = B (!rr.1) /\ IQ h iq im v' (l64 a t_) (.fn keep_n keep_a keep_b) (.fn fits_n fits_a fits_b) rr.2.1 rr.2.2) (fun K hK => ?_) ?_
 ·simp only [go_sem, s8]
  refine d9m (kC _ (l64 a t_) keep_n keep_a keep_b keep keep_z keep_h fits_n fits_a fits_b fits fits_z fits_h ⟨0, ⟨0, (0, 0)⟩, 0⟩ [] [] iq im nilS h H rr hr) ?_
  rintro _ h2 ⟨rfl, v3, H3⟩
  simp only [go_sem]
  exact hK _ _ ⟨v3, by simp only [go_sem, s8], by simp only [go_sem], H3⟩
 rintro t h ⟨v', s8, s38, H⟩
 refine b0i fun K hK => ?_
 simp only [go_sem, s38]
 refine b0k (fun hc => ?_) (fun hc => ?_)
 ·refine b0b fun K hK => ?_
  simp only [go_sem]
  refine hK _ _ ?_
  clear hK K
  simp only [b0x, b1p, b2e, b0y]
  have e : rr.1 = false := by simpa using hc
  rw [e]
  have hl : Fz h nilS L := by
   rcases hL with rfl | rfl
   ·rw [e]; exact .nil _
   ·exact .dead _
  exact d66 (v := nilS) (u := B false) (by simp only [go_sem]) (by simp only [go_sem]) hl (.refl _ (b0e _))
 ·simp only [b0s, b0f]
  refine hK _ _ ?_
  clear hK K
  have hqs := H.q
  simp only [QC] at hqs
  have e : rr.1 = true := by simpa using hc
  refine b0b fun K hK => ?_
  simp only [go_sem, s8, hqs, b5r v']
  refine hK _ _ ?_
  clear hK K
  simp only [b0x, b1p, b2e, b0y]
  rw [e]
  have hl : Fz h v' L := by
   rcases hL with rfl | rfl
   ·rw [e]; exact u7p H.ow
   ·exact .dead _
  exact d66 (v := v') (u := B true) (by simp only [go_sem]) (by simp only [go_sem]) hl (.refl _ (b0e _))
theorem IQ.keep {h : Heap} {iq im : Nat} {v : AV} {q : faults_inquiry} {kf ff kf' : AV} {dead : b54} {ins : List Int} (H : IQ h iq im v q kf ff dead ins) :
  IQ (h.upd iq (some (20, [QC q kf' ff im v]))) iq im v q kf' ff dead ins :=
 ⟨c53 rfl, H.ql, by rw [g3s (fun e => H.ne e.symm)]; exact H.m, H.ml, s9q H.ow (fun j hj _ => g3s (fun e => hj (by subst e; exact H.nq))) (Nat.le_refl _), H.ne, H.nq, H.nm⟩
theorem IQ.fits {h : Heap} {iq im : Nat} {v : AV} {q : faults_inquiry} {kf ff ff' : AV} {dead : b54} {ins : List Int} (H : IQ h iq im v q kf ff dead ins) :
  IQ (h.upd iq (some (20, [QC q kf ff' im v]))) iq im v q kf ff' dead ins :=
 ⟨c53 rfl, H.ql, by rw [g3s (fun e => H.ne e.symm)]; exact H.m, H.ml, s9q H.ow (fun j hj _ => g3s (fun e => hj (by subst e; exact H.nq))) (Nat.le_refl _), H.ne, H.nq, H.nm⟩
theorem x6v (hf : Has O "newel/faults.with$1" x_faults_withD1) {h : Heap} {iq im : Nat} {v : AV} {q : faults_inquiry} {kf ff : AV} {n : String} {a b : List AV} {dead : b54} {ins : List Int} (H : IQ h iq im v q kf ff dead ins) :
  b6e O "newel/faults.with$1" ([] ++ [.rp iq 0 0] ++ [.fp [.fn n a b] 0]) h (fun _ h' => IQ h' iq im v q kf (.fn n a b) dead ins) := by
 refine d8g hf rfl ?_
 have hqs := H.q
 simp only [QC] at hqs
 refine b1c (fun t h' => t 0 = .rp iq 0 0 /\ t 1 = .fp [.fn n a b] 0 /\ h' = h) ⟨rfl, rfl, rfl⟩ fun t h' ⟨s0, s1, hh⟩ => ?_
 subst hh
 simp only [x_faults_withD1]
 refine b03 fun K hK => ?_
 simp only [go_sem, s0, s1, hqs]
 refine hK _ _ ?_
 exact c4o (Post := fun _ h' => IQ h' iq im v q kf (.fn n a b) dead ins) H.fits
theorem u9i (hf : Has O "newel/faults.search" x_faults_search) (kC : ∀ k, s96 O k) {a : Accident} {t_ : Theory} {opts : List AV} (hz : ∀ o ∈ opts, Frz o) (hlen : opts.length <= 1000) (kf ff : Nat -> AV) (k0 : kf 0 = .fn "newel/faults.search$1" [] []) (f0 : ff 0 = .fn "newel/faults.search$2" [] [])
  (hstep : ∀ (k : Nat) o, opts[k]? = some o -> ∃ nm oa ob, o = .fn nm oa ob /\ b2k nm = none /\ ∀ h iq im, IQ h iq im nilS (l64 a t_) (kf k) (ff k) [] [] -> b6e O nm (oa ++ [.rp iq 0 0] ++ ob) h (fun _ h' => IQ h' iq im nilS (l64 a t_) (kf (k + 1)) (ff (k + 1)) [] []))
  {keep_n : String} {keep_a keep_b : List AV} {keep : Kp} (keep_z : Frz (.fn keep_n keep_a keep_b)) (keep_h : ∀ z0 y, keep z0 = some y -> Fn O keep_n (keep_a ++ [I z0] ++ keep_b) (B y))
  {fits_n : String} {fits_a fits_b : List AV} {fits : Ft} (fits_z : Frz (.fn fits_n fits_a fits_b)) (fits_h : ∀ z0 z1 z2 y, fits z0 z1 z2 = some y -> Fn O fits_n (fits_a ++ [I z0, .agg [I z1.State, I z1.Values.1, I z1.Values.2], I z2] ++ fits_b) (B y))
  (kN : kf opts.length = .fn keep_n keep_a keep_b) (fN : ff opts.length = .fn fits_n fits_a fits_b)
  {r : List Int × Bool} (hm0 : s89 a t_ keep fits = some r) {L : AV} (hL : L = .fs 1 (List.map eI r.1) \/ L = .dead) :
  Fn O "newel/faults.search" [.agg (aA a), .agg [I t_.Input, I t_.Value, I t_.From], .fs 1 (opts.map fun o => [o])] (.tup [L, B r.2]) := by
 refine b1i hf rfl (b0a (.agg _ (b0a (b0c fun a _ => b0z a) (b0a (b0c fun a _ => b0z a) (b0a (b0c fun a _ => b1q a) (b0a (b0c fun a _ => b1s a) (b0a (b0c fun a _ => b1r a) (b0a (b0c fun a _ => b2j a) (b0a (b0e _) (b0a (b0c fun a _ => c17 a) b0j))))))))) (b0a (.agg _ (b0a (b0e _) (b0a (b0e _) (b0a (b0e _) b0j)))) (b0a (.fs _ _ fun e he c hc => ?_) b0j)))
  (.tup _ (b0a (by rcases hL with rfl | rfl; exact b0c fun a _ => b1t a; exact .dead) (b0a (b0e _) b0j))) ?_
 ·obtain ⟨o, ho, rfl⟩ := List.mem_map.1 he
  rw [List.mem_singleton.1 hc]; exact hz o ho
 refine b1c (fun t h => t 0 = .agg (aA a) /\ t 1 = .agg [I t_.Input, I t_.Value, I t_.From] /\ t 2 = .fs 1 (opts.map fun o => [o])) ⟨rfl, rfl, rfl⟩ fun t h ⟨s0, s1, s2⟩ => ?_
 simp only [x_faults_search]
 refine b0b fun K hK => ?_
 simp only [go_sem, s0, s1]
 refine hK _ _ ?_
 clear hK K
 refine b2p (fun t h => ∃ iq im, t 2 = .fs 1 (opts.map fun o => [o]) /\ t 8 = .rp iq 0 0 /\ IQ h iq im nilS (l64 a t_) (.v .nilFunc) (.v .nilFunc) [] []) (fun K hK => ?_) ?_
 ·simp only [go_sem]
  refine g0d (O := O) (e := List.map (eM (vks s8w) vB) []) rfl ?_
  simp only [go_sem, u82, u81]
  exact hK _ _ ⟨nxs h.nx, h.nx, by simp only [go_sem, s2], by simp only [go_sem], ⟨by simp only [go_sem, QC, l64], by simp only [go_sem, nxs]; omega, by simp only [go_sem], by simp only [go_sem, nxs]; omega, .inl ⟨rfl, rfl⟩, by simp only [nxs]; omega, trivial, trivial⟩⟩
 clear s0 s1 s2
 rintro t h ⟨iq, im, s2, s8, H⟩
 have hqs := H.q
 simp only [QC] at hqs
 refine b2p (fun t h => t 2 = .fs 1 (opts.map fun o => [o]) /\ t 8 = .rp iq 0 0 /\ IQ h iq im nilS (l64 a t_) (.fn "newel/faults.search$1" [] []) (.v .nilFunc) [] []) (fun K hK => ?_) ?_
 ·simp only [go_sem, s8, hqs]
  exact hK _ _ ⟨by simp only [go_sem, s2], by simp only [go_sem, s8], H.keep⟩
 clear s2 s8 H hqs
 rintro t h ⟨s2, s8, H⟩
 have hqs := H.q
 simp only [QC] at hqs
 refine b2p (fun t h => t 2 = .fs 1 (opts.map fun o => [o]) /\ t 8 = .rp iq 0 0 /\ IQ h iq im nilS (l64 a t_) (.fn "newel/faults.search$1" [] []) (.fn "newel/faults.search$2" [] []) [] []) (fun K hK => ?_) ?_
 ·simp only [go_sem, s8, hqs]
  exact hK _ _ ⟨by simp only [go_sem, s2], by simp only [go_sem, s8], H.fits⟩
 clear s2 s8 H hqs
 rintro t h ⟨s2, s8, H⟩
 refine b0v ?_
 refine b0b fun K hK => ?_
 simp only [go_sem, s2]
 refine hK _ _ ?_
 clear hK K
 refine b0i fun K1 hK1 => ?_
 simp only [b0u]
 have hloop : b0w (fun x : Int => if decide (x < (opts.length : Int)) then some (Out.nx (wr (x + 1))) else some (.br ())) 0 = some () := by
  refine b4h opts.length (fun (_ : Unit) k => k) (fun _ => ()) () (s0 := ()) rfl (fun k hk => ?_) ?_
  ·simp only [Int.ofNat_lt, hk, decide_true, if_true, b2r hk (by simp only [maxLen]; omega : opts.length <= maxLen)]
  ·simp only [Int.lt_irrefl, decide_false, fT9, if_false]
 refine b1j hloop (fun x t h => ∃ k : Nat, x = (k : Int) /\ k <= opts.length /\ t 8 = .rp iq 0 0 /\ t 25 = .fs 1 (opts.map fun o => [o]) /\ t 26 = I (opts.length : Int) /\ t 27 = I x /\ IQ h iq im nilS (l64 a t_) (kf k) (ff k) [] []) ?_ ?_
 ·exact ⟨0, rfl, Nat.zero_le _, by simp only [go_sem, s8], by simp only [go_sem], by simp only [go_sem, List.length_map], by simp only [go_sem], by rw [k0, f0]; exact H⟩
 clear s2 s8 H
 rintro x o t h ⟨k, rfl, hk, s8, s25, s26, s27, H⟩ hm1 hb
 rw [u5v]
 refine b0b fun K hK => ?_
 simp only [go_sem, s26, s27]
 refine hK _ _ ?_
 clear hK K
 refine b0i fun K2 hK2 => ?_
 simp only [go_sem]
 refine b0k (fun hc => ?_) (fun hc => ?_)
 ·rw [b0r hc] at hm1
  obtain rfl := Option.some.inj hm1
  have hk' : k < opts.length := by simpa using hc
  obtain ⟨o, ho⟩ := b3b hk'
  obtain ⟨nm, oa, ob, rfl, hmn, hst⟩ := hstep k o ho
  simp only [b0s, b02, b0f]
  refine hK2 _ _ ?_
  refine b0i fun K3 hK3 => ?_
  simp only [b0u]
  have hg : get opts (k : Int) = some (.fn nm oa ob) := b1h ho
  have hel : ((opts.map fun o => [o]) : List (List AV))[k]? = some [.fn nm oa ob] := by rw [List.getElem?_map, ho]; rfl
  refine b0b fun K hK => ?_
  simp only [go_sem, s25, s27, b08 hg]
  refine hK _ _ ?_
  clear hK K
  refine b03 fun K hK => ?_
  simp only [go_sem, s8]
  refine u8l (hst h iq im H) hmn ?_
  intro w h' H'
  simp only [go_sem]
  refine hK _ _ ?_
  clear hK K
  simp only [b02, b0f]
  refine hK3 _ _ ?_
  refine b03 fun K hK => ?_
  simp only [go_sem, s27]
  refine hK _ _ ?_
  clear hK K
  simp only [b02, b0f]
  exact ⟨_, rfl, k + 1, by rw [b2r hk' (by simp only [maxLen]; omega : opts.length <= maxLen)]; rfl, by omega, by simp only [go_sem, s8], by simp only [go_sem, s25], by simp only [go_sem, s26], by simp only [go_sem], H'⟩
 ·rw [b0q hc] at hm1
  obtain rfl := Option.some.inj hm1
  have : k = opts.length := by have : ¬ k < opts.length := by simpa using hc
                               omega
  subst this
  simp only [b09, b1b, b1a, c0s, b02, b0f, Nat.reduceEqDiff, not_false_eq_true]
  refine hK1 _ _ ?_
  rw [kN, fN] at H
  exact u9j kC keep_z keep_h fits_z fits_h hm0 hL (by simp only [go_sem, s8]) H
theorem u45 {n : String} : Frz (.fn n [] []) := .fn _ _ _ (fun c hc => by simp at hc) (fun c hc => by simp at hc)
theorem u8p (k1 : s98 O) : ∀ z0 y, (fun _ : Int => some true) z0 = some y -> Fn O "newel/faults.search$1" ([] ++ [I z0] ++ []) (B y) := fun z0 y hy => by
 cases hy; exact k1 z0
theorem x6t (hf : Has O "newel/faults.search" x_faults_search) (hb : Has O "newel/faults.with$1" x_faults_withD1) (kC : ∀ k, s96 O k) (k1 : s98 O) : x5e O := fun a t_ fits_n fits_a fits_b fits fits_z fits_h r hm0 =>
 u9i hf kC (opts := [.fn "newel/faults.with$1" [] [.fp [.fn fits_n fits_a fits_b] 0]]) (fun o ho => by
   rw [List.mem_singleton.1 ho]; exact .fn _ _ _ (fun c hc => by simp at hc) (b0a (.fp _ _ (b0a fits_z b0j)) b0j)) (by simp)
  (fun _ => .fn "newel/faults.search$1" [] []) (fun k => if k = 0 then .fn "newel/faults.search$2" [] [] else .fn fits_n fits_a fits_b) rfl rfl (fun k o ho => by
   cases k with
   | succ k => simp at ho
   | zero =>
    simp only [List.getElem?_cons_zero, iE9] at ho
    subst ho
    exact ⟨_, _, _, rfl, rfl, fun h iq im H => x6v hb H⟩) u45 (u8p k1) fits_z fits_h rfl rfl hm0 (.inr rfl)
theorem x5u (hf : Has O "newel/faults.with" x_faults_with) : x5m O := by
 intro n a b h
 refine d8g hf rfl ?_
 refine b1c (fun t h' => t 0 = .fn n a b /\ h' = h) ⟨rfl, rfl⟩ fun t h' ⟨s0, hh⟩ => ?_
 subst hh
 simp only [x_faults_with]
 refine b0b fun K hK => ?_
 simp only [go_sem, s0, x09]
 refine hK _ _ ?_
 clear hK K
 refine b0b fun K hK => ?_
 simp only [go_sem]
 refine hK _ _ ?_
 clear hK K
 simp only [b0x, b1p, b2e, b0y]
 exact y65 (Post := fun v h2 => v = .fn "newel/faults.with$1" [] [.rp h'.nx 0 0] /\ h2 = h'.new (1, [[.fn n a b]])) (v := .fn "newel/faults.with$1" [] [.rp h'.nx 0 0]) (by simp only [go_sem]) ⟨rfl, by simp only [go_sem]⟩
def u2i (O : Orac) : Prop := ∀ k, s96 O k
theorem u3h (hf : Has O "(*newel/faults.inquiry).course" x___faults_inquiry__course) (d2w : c9y O) (d2x : c9z O) (d20 : c92 O) (u3f : u1g O) (u3g : u1h O) : u2i O := by
 exact u48 hf d2w d2x d20 u3f u3g
theorem x5t (hf : Has O "newel/faults.search" x_faults_search) (hb : Has O "newel/faults.with$1" x_faults_withD1) (u3h : u2i O) (u3l : s98 O) : x5e O := by
 exact x6t hf hb u3h u3l
end Go.Nw.UM
namespace Go.Nw
section
variable {π : Type} (From To : Nat -> Nat) (Al : Nat -> Bool) (hold : Nat -> π -> Nat -> Bool)
variable {From To Al hold}
end
end Go.Nw
namespace Go.Nw.UM
noncomputable section
def c49 (l : List Nat) (i : Nat) : Bool := decide (i ∈ l)
def ftT (_ : Nat) (_ : Place) (_ : Nat) : Bool := true
abbrev TD (a : Accident) (th : Theory) (l : List Nat) : Nat × Place × Nat -> Nat -> Option (Nat × Place × Nat) :=
 trD (fr a) (to a) (al a) (c49 l) (hold a) (stA a th) (okA a ftT) a.Records.length
section
variable {a : Accident} {th : Theory} {l : List Nat}
theorem u1f {m m' : Nat × Place × Nat} {x : Nat} (h : TD a th l m x = some m') : ∃ D', okA a ftT m.1 m.2.1 x = true /\ c37 (fr a) (to a) (al a) (c49 l) (hold a) m.1 m.2.1 x m.2.2 a.Records.length = some D' /\ m' = (m.1 + 1, stA a th m.1 m.2.1 x, D') := by
 unfold TD trD at h
 split at h
 ·rename_i ho
  obtain ⟨D', h1, rfl⟩ := mE9.1 h
  exact ⟨D', ho, h1, rfl⟩
 ·cases h
end
end
end Go.Nw.UM
namespace Go.Nw.UM
noncomputable section
def Rch (a : Accident) (th : Theory) (l : List Nat) : Nat -> Place × Nat -> Prop
 | 0, s => s = (zero, 0)
 | t + 1, s' => ∃ s, Rch a th l t s /\ ∃ x, x < nA a /\ TD a th l (t, s) x = some (t + 1, s')
def AcD (a : Accident) (th : Theory) (l : List Nat) (want : Nat) (w : List Nat) (m : Nat × Place × Nat) : Prop := Acc (TD a th l) (c40 (tA a) want) (nA a) w m
def b64 (a : Accident) (th : Theory) (l : List Nat) (want : Nat) (m : Nat × Place × Nat) : Prop := ∃ w, AcD a th l want w m
section
variable {a : Accident} {th : Theory} {l : List Nat} {want : Nat}
theorem u1t {m : Nat × Place × Nat} {x : Nat} {xs : List Nat} (hm : m.1 < tA a) : AcD a th l want (x :: xs) m ↔ x < nA a /\ ∃ m', TD a th l m x = some m' /\ AcD a th l want xs m' := by
 unfold AcD
 rw [Acc]
 constructor
 ·rintro ⟨_, h⟩; exact h
 ·intro h
  refine ⟨?_, h⟩
  unfold c40; simp; omega
theorem tA6 (hs : Small a) : tA a <= 6 := by have := hs.t; have := hs.ok.t; unfold tA; omega
variable (hs : Small a) (hth : OkT a th) (hl : ∀ i ∈ l, i < a.Records.length) (hl8 : l.length <= 8)
include hs hth hl hl8
end
end
end Go.Nw.UM
namespace Go.Nw.UM
noncomputable section
section
variable {a : Accident} {th : Theory} {l : List Nat} {want : Nat}
variable (hs : Small a) (hth : OkT a th) (hl : ∀ i ∈ l, i < a.Records.length) (hl8 : l.length <= 8)
include hs hth hl hl8
end
end
end Go.Nw.UM
namespace Go.Nw
section
variable {π : Type} {From To : Nat -> Nat} {Al keep keep' : Nat -> Bool} {hold : Nat -> π -> Nat -> Bool} {st : Nat -> π -> Nat -> π} {ok ok' : Nat -> π -> Nat -> Bool} {N T n : Nat}
end
end Go.Nw
namespace Go.Nw.UM
noncomputable section
abbrev l18 (a : Accident) (th : Theory) (keep : Nat -> Bool) (ft : Nat -> Place -> Nat -> Bool) : List Nat -> Prop := l27 (fr a) (to a) (al a) keep (hold a) (stA a th) (okA a ft) (nA a) (tA a) a.Records.length zero
section
variable {a : Accident} {th : Theory} {want : Nat}
variable (hs : Small a) (hth : OkT a th)
include hs hth
end
end
end Go.Nw.UM
namespace Go.Nw.UM
noncomputable section
def o8f (m : Machine) (c : List (List Literal)) (hd : Nat -> Int) : Place -> List Nat -> Place -> Prop
 | p, [], q => p = q
 | p, x :: l, q => x < 2 ^ m.Inputs.length /\ c25 m p x c = true /\ o8f m c hd (nxt m p (hd x)) l q
theorem d8d {m : Machine} {c : List (List Literal)} {hd : Nat -> Int} : ∀ {l : List Nat} {p q : Place} {x : Nat}, o8f m c hd p l q -> x < 2 ^ m.Inputs.length -> c25 m q x c = true -> o8f m c hd p (l ++ [x]) (nxt m q (hd x))
 | [], p, q, x, h, h1, h2 => by cases h; exact ⟨h1, h2, rfl⟩
 | y :: l, p, q, x, h, h1, h2 => ⟨h.1, h.2.1, d8d h.2.2 h1 h2⟩
structure Tr (m : Machine) (c : List (List Literal)) (hd : Nat -> Int) (s : S3) : Prop where
 z : s.1[0]? = some zero
 b : s.2.1[0]? = some (-1)
 t : ∀ (k : Nat) q, 1 <= k -> s.1[k]? = some q -> ∃ (b x : Nat) (p : Place), s.2.1[k]? = some (b : Int) /\ s.2.2[k]? = some (x : Int) /\ b < k /\ x < 2 ^ m.Inputs.length /\ s.1[b]? = some p /\ c25 m p x c = true /\ q = nxt m p (hd x)
section
variable {m : Machine} {c : List (List Literal)} {hd : Nat -> Int}
theorem b99 {α : Type} {l : List α} {k : Nat} {x y : α} (h : l[k]? = some x) : (l ++ [y])[k]? = some x := by
 rw [List.getElem?_append_left (b1k h)]; exact h
theorem g51 {s : S3} (hg : Good m s) (ht : Tr m c hd s) {i x : Nat} {p : Place} (hp : s.1[i]? = some p) (hx : x < 2 ^ m.Inputs.length) (ha : c25 m p x c = true) : Tr m c hd (b5l s i x (nxt m p (hd x))) := by
 unfold b5l
 split
 ·exact ht
 ·refine ⟨b99 ht.z, b99 ht.b, fun k q hk hq => ?_⟩
  by_cases hlt : k < s.1.length
  ·rw [List.getElem?_append_left hlt] at hq
   obtain ⟨b, x', p', h1, h2, h3, h4, h5, h6⟩ := ht.t k q hk hq
   exact ⟨b, x', p', b99 h1, b99 h2, h3, h4, b99 h5, h6⟩
  ·have hkl := b1k hq
   simp only [List.length_append, List.length_cons, List.length_nil] at hkl
   have e : k = s.1.length := by omega
   subst e
   simp only [List.getElem?_append_right (Nat.le_refl _), Nat.sub_self, List.getElem?_cons_zero, iE9] at hq
   subst hq
   refine ⟨i, x, p, ?_, ?_, b1k hp, hx, b99 hp, ha, rfl⟩
   ·rw [<- hg.b]; simp
   ·rw [<- hg.i]; simp
theorem d2n (hm : OkM m) {i : Nat} {p : Place} (hp : OkP m p) : ∀ (x : Nat) {s : S3}, x <= 2 ^ m.Inputs.length -> Good m s -> Tr m c hd s -> s.1[i]? = some p -> Tr m c hd (inn m c hd i p x s)
 | 0, s, _, hg, ht, hi => ht
 | x + 1, s, hx, hg, ht, hi => by
  unfold inn; split
  ·rename_i ha
   exact g51 (c0g hm hp x hg) (d2n hm hp x (by omega) hg ht hi) (c0r (c3a x) hi) (by omega) ha
  ·exact d2n hm hp x (by omega) hg ht hi
theorem d4h (hm : OkM m) : ∀ k, Tr m c hd (b0h m c hd k)
 | 0 => by
  refine ⟨rfl, rfl, fun k q hk hq => ?_⟩
  have := b1k hq
  simp only [b0h, List.length_cons, List.length_nil] at this
  omega
 | k + 1 => by
  have hg := s3t (c := c) (hd := hd) hm k
  have ht := d4h hm k
  unfold b0h
  cases hp : (b0h m c hd k).1[k]? with
  | none => exact ht
  | some p => exact d2n hm (hg.o p (b1d.2 ⟨k, hp⟩)) _ (Nat.le_refl _) hg ht hp
def c52 (l : List Nat) : List Int := l.map fun x : Nat => (x : Int)
theorem g0o {l : List Nat} : (c52 l).length = l.length := by simp [c52]
theorem g0n {l r : List Nat} : c52 (l ++ r) = c52 l ++ c52 r := by simp [c52]
theorem g0p {x : Nat} : c52 [x] = [(x : Int)] := rfl
theorem g5t {l : List Int} (hl : l.length <= maxLen) : c48 l = some l.reverse := by
 unfold c48 c9l
 have hml : (maxLen : Int) <= 9223372036854775807 := by decide
 rw [c1n hl]
 have key : ∀ d i : Nat, l.length - 2 * i <= d -> 2 * i <= l.length + 1 -> b0w c1j (tab l.length (fun q => if q < i \/ l.length - 1 - i < q then l.getD (l.length - 1 - q) 0 else l.getD q 0), (i : Int), (l.length : Int) - 1 - i) = some l.reverse := by
  intro d
  induction d with
  | zero =>
   intro i hd hi
   refine b3d ?_
   unfold c1j
   have : ¬ ((i : Int) < (l.length : Int) - 1 - i) := by omega
   simp only [this, decide_false, fT9, if_false, iE9, Out.br.injEq]
   apply List.ext_getElem
   ·rw [b3y, List.length_reverse]
   ·intro q h1 h2
    rw [b3y] at h1
    simp only [tab, List.getElem_map, List.getElem_range, List.getElem_reverse]
    split
    ·rw [List.getD_eq_getElem?_getD, gG9 (by omega)]; rfl
    ·have : l.length - 1 - q = q := by omega
     rw [List.getD_eq_getElem?_getD, gG9 (by omega)]
     simp only [this]; rfl
  | succ d ih =>
   intro i hd hi
   by_cases hlt : 2 * i + 1 < l.length
   case neg =>
    refine b3d ?_
    unfold c1j
    have : ¬ ((i : Int) < (l.length : Int) - 1 - i) := by omega
    simp only [this, decide_false, fT9, if_false, iE9, Out.br.injEq]
    apply List.ext_getElem
    ·rw [b3y, List.length_reverse]
    ·intro q h1 h2
     rw [b3y] at h1
     simp only [tab, List.getElem_map, List.getElem_range, List.getElem_reverse]
     split
     ·rw [List.getD_eq_getElem?_getD, gG9 (by omega)]; rfl
     ·have : l.length - 1 - q = q := by omega
      rw [List.getD_eq_getElem?_getD, gG9 (by omega)]
      simp only [this]; rfl
   case pos =>
    have hj : (l.length : Int) - 1 - i = ((l.length - 1 - i : Nat) : Int) := by omega
    rw [<- ih (i + 1) (by omega) (by omega)]
    refine w91 ?_
    unfold c1j
    have : (i : Int) < ((l.length - 1 - i : Nat) : Int) := by omega
    simp only [hj, this, decide_true, if_true, c2y (show l.length - 1 - i < l.length by omega), c2y (show i < l.length by omega), bS9, Int.toNat_natCast]
    rw [if_neg (by omega), if_neg (by omega), d5i, c2y (by omega), bS9, d5i, b3t (by omega) (by omega), b3t (by omega) (by omega)]
    congr 2
    refine Prod.ext ?_ (Prod.ext ?_ ?_)
    ·refine c1m fun q hq => ?_
     by_cases e1 : q = l.length - 1 - i
     ·rw [if_pos e1, if_pos (by omega)]; congr 1; omega
     ·rw [if_neg e1]
      by_cases e2 : q = i
      ·rw [if_pos e2, if_pos (by omega)]; congr 1; omega
      ·rw [if_neg e2]
       by_cases e3 : q < i \/ l.length - 1 - i < q
       ·rw [if_pos e3, if_pos (by omega)]
       ·rw [if_neg e3, if_neg (by omega)]
    ·simp
    ·simp only; omega
 have h0 := key l.length 0 (by omega) (by omega)
 have e : tab l.length (fun q => if q < 0 \/ l.length - 1 - 0 < q then l.getD (l.length - 1 - q) 0 else l.getD q 0) = l := by
  apply List.ext_getElem
  ·rw [b3y]
  ·intro q h1 h2
   simp only [tab, List.getElem_map, List.getElem_range]
   rw [if_neg (by omega), List.getD_eq_getElem?_getD, gG9 h2]; rfl
 rw [e] at h0
 simp only [Int.natCast_zero, Int.sub_zero] at h0
 rw [h0]; rfl
theorem g2z {s : S3} (hg : Good m s) (ht : Tr m c hd s) (hl : s.1.length <= 768) (w : control_walk) (g : r04_graph) (hw : w.from_ = s.2.1 /\ w.by_ = s.2.2) (hgr : g.back = s.2.1 /\ g.input = s.2.2) (k : Nat) (hk : k < s.1.length) :
  ∃ P : List Nat, b71 w k = some (c52 P) /\ b4c g k = some (c52 P) /\ P.length <= k /\ ∃ q, s.1[k]? = some q /\ o8f m c hd zero P q := by
 have key : ∀ d k : Nat, k <= d -> k < s.1.length -> ∃ P : List Nat, P.length <= k /\ (∃ q, s.1[k]? = some q /\ o8f m c hd zero P q) /\
   (∀ l : List Int, l.length + k <= 768 -> b0w (b72 w) ((k : Int), l) = some (l ++ (c52 P).reverse)) /\
   (∀ l : List Int, l.length + k <= 768 -> b0w (b73 g) ((k : Int), l) = some ((c52 P) ++ l)) := by
  intro d
  induction d with
  | zero =>
   intro k h1 h2
   obtain rfl : k = 0 := by omega
   refine ⟨[], Nat.le_refl _, ⟨zero, ht.z, rfl⟩, fun l hl => ?_, fun l hl => ?_⟩
   ·refine b3d ?_
    unfold b72
    simp only [hw.1]
    have := b1h ht.b
    simp only [Int.natCast_zero] at this ⊢
    rw [this]; simp [c52]
   ·refine b3d ?_
    unfold b73; simp [c52]
  | succ d ih =>
   intro k h1 h2
   by_cases hz : k = 0
   ·exact ih k (by omega) h2
   obtain ⟨q, hq⟩ := b3b h2
   obtain ⟨b, x, p, e1, e2, e3, e4, e5, e6, rfl⟩ := ht.t k q (by omega) hq
   obtain ⟨P, p1, ⟨q', p2, p3⟩, p4, p5⟩ := ih b (by omega) (b1k e5)
   rw [e5] at p2; cases p2
   refine ⟨P ++ [x], by simp; omega, ⟨_, hq, d8d p3 e4 e6⟩, fun l hl => ?_, fun l hl => ?_⟩
   ·have : b0w (b72 w) ((k : Int), l) = b0w (b72 w) ((b : Int), l ++ [(x : Int)]) := w91 (by
     unfold b72
     simp only [hw.1, hw.2, b1h e1, b1h e2, bS9, Int.natCast_nonneg, decide_true, if_true]
     rw [b6d (by omega) (by simp) (by omega), bS9])
    rw [this, p4 _ (by simp; omega), g0n, g0p]
    simp
   ·have : b0w (b73 g) ((k : Int), l) = b0w (b73 g) ((b : Int), (x : Int) :: l) := w91 (by
     unfold b73
     have : 0 < (k : Int) := by omega
     simp only [hgr.1, hgr.2, b1h e1, b1h e2, bS9, this, decide_true, if_true]
     rw [b6d (by simp) (by omega) (by omega), bS9]; rfl)
    rw [this, p5 _ (by simp; omega), g0n, g0p]
    simp
 obtain ⟨P, p1, p2, p3, p4⟩ := key k k (Nat.le_refl _) hk
 refine ⟨P, ?_, ?_, p1, p2⟩
 ·unfold b71 c57
  rw [p3 [] (by simp; omega), bS9, List.nil_append, g5t (by rw [List.length_reverse, g0o]; exact b1o (by omega)), bS9, List.reverse_reverse]
 ·unfold b4c c6e
  rw [p4 [] (by simp; omega), bS9, List.append_nil]
end
end
end Go.Nw.UM
namespace Go.Nw.UM
noncomputable section
section
variable {m : Machine} {c : List (List Literal)} {hd : Nat -> Int}
theorem d73 {s : S3} (hg : Good m s) (ht : Tr m c hd s) (hl : s.1.length <= 768) {w : control_walk} {g : r04_graph} (hw : w.from_ = s.2.1 /\ w.by_ = s.2.2) (hwp : w.places = s.1) (hgr : g.back = s.2.1 /\ g.input = s.2.2) (hgp : g.places = s.1)
  {wanted : Int -> Option Bool} {p : Nat -> Bool} (hwant : ∀ k : Nat, k < s.1.length -> wanted k = some (p k)) :
  ∃ r, b9e w wanted = some r /\ r.1.length <= 768 /\
   (∀ (f : Int -> Option (Out Int (Unit ⊕ ((List Int) × Bool)))), (∀ k : Nat, k < s.1.length -> f k = (if p k = true then (b4c g k).bind fun y => some (.br (.inr (y, true))) else some (.nx ((k : Int) + 1)))) -> f (s.1.length : Int) = some (.br (.inl ())) ->
    (b0w f 0).bind (fun | (.inl ()) => some ([], false) | (.inr r') => some r') = some r) /\
   ((r = ([], false) /\ ∀ k, k < s.1.length -> p k = false) \/ ∃ (k : Nat) (q : Place) (P : List Nat), r = (c52 P, true) /\ s.1[k]? = some q /\ p k = true /\ (∀ j, j < k -> p j = false) /\ o8f m c hd zero P q /\ P.length <= k /\ b4c g k = some (c52 P)) := by
 have hrun := g2z hg ht hl w g hw hgr
 have run2 : ∀ k : Nat, k < s.1.length -> ∃ P : List Nat, b71 w k = some (c52 P) /\ b4c g k = some (c52 P) /\ P.length <= k /\ ∃ q, s.1[k]? = some q /\ o8f m c hd zero P q := hrun
 obtain ⟨R, hR⟩ : ∃ R : Nat -> List Nat, ∀ k : Nat, k < s.1.length -> b71 w k = some (c52 (R k)) /\ b4c g k = some (c52 (R k)) /\ (R k).length <= k /\ ∃ q, s.1[k]? = some q /\ o8f m c hd zero (R k) q :=
  ⟨fun k => if h : k < s.1.length then (run2 k h).choose else [], fun k h => by dsimp only; rw [dif_pos h]; exact (run2 k h).choose_spec⟩
 have e1 := c7s (f := b9f w wanted) (n := s.1.length) (p := p) (e := fun k => .inr (c52 (R k), true)) (u := .inl ()) (fun t h hp => by
   unfold b9f
   simp only [hwp, Int.ofNat_lt, h, decide_true, if_true, hwant t h, bS9, hp, (hR t h).1]) (fun t h hp => by
   unfold b9f
   simp only [hwp, Int.ofNat_lt, h, decide_true, if_true, hwant t h, bS9, hp, fT9, if_false, b2r h (b1o (by omega))]) (by
   unfold b9f
   simp only [hwp, Int.lt_irrefl, decide_false, fT9, if_false])
 have e2 : ∀ (f : Int -> Option (Out Int (Unit ⊕ ((List Int) × Bool)))), (∀ k : Nat, k < s.1.length -> f k = (if p k = true then (b4c g k).bind fun y => some (.br (.inr (y, true))) else some (.nx ((k : Int) + 1)))) -> f (s.1.length : Int) = some (.br (.inl ())) ->
   b0w f 0 = some (match b5q s.1.length p with | some t => .inr (c52 (R t), true) | none => .inl ()) := fun f hf hfin => c7s (p := p) (fun t h hp => by
   rw [hf t h, if_pos hp, (hR t h).2.1]; rfl) (fun t h hp => by rw [hf t h, if_neg (by rw [hp]; simp)]) hfin
 unfold b9e c56
 rw [e1, bS9]
 cases hf : b5q s.1.length p with
 | none =>
  refine ⟨([], false), rfl, by simp, fun f h1 h2 => by rw [e2 f h1 h2, hf]; rfl, .inl ⟨rfl, d72.1 hf⟩⟩
 | some k =>
  obtain ⟨h1, h2, h3⟩ := j00 hf
  obtain ⟨_, r2, r3, q, r4, r5⟩ := hR k h1
  exact ⟨(c52 (R k), true), rfl, by rw [g0o]; omega, fun f h1 h2 => by rw [e2 f h1 h2, hf]; rfl, .inr ⟨k, q, R k, rfl, r4, h2, h3, r5, r3, r2⟩⟩
def d5x (m : Machine) (c never : List (List Literal)) (hd : Nat -> Int) (r : List Int × Bool) : Prop :=
 ∃ K, End m c hd K /\ ((r = ([], false) /\ ∀ q ∈ (b0h m c hd K).1, b46 m q 0 never = false) \/
  ∃ (k : Nat) (q : Place) (P : List Nat), r = (c52 P, true) /\ (b0h m c hd K).1[k]? = some q /\ b46 m q 0 never = true /\ (∀ (j : Nat) q', j < k -> (b0h m c hd K).1[j]? = some q' -> b46 m q' 0 never = false) /\ o8f m c hd zero P q /\ P.length <= k /\ b4c ⟨(b0h m c hd K).1, (b0h m c hd K).2.1, (b0h m c hd K).2.2⟩ k = some (c52 P))
theorem g6v (hm : OkM m) {ins ins' : Bool} (hc : b2s m ins c) {never : List (List Literal)} (hn : b2s m ins' never) {heard : Int -> Option Int} (hh : ∀ x : Nat, x < 2 ^ m.Inputs.length -> heard x = some (hd x)) {inp val : Int} (hh' : ∀ x : Nat, x < 2 ^ m.Inputs.length -> b6a x inp val = some (hd x)) :
  ∃ r g, c1t ⟨⟨m⟩⟩ c never heard = some r /\ b8z m c inp val = some g /\ c1x g m never = some r /\ r.1.length <= 768 /\ d5x m c never hd r := by
 obtain ⟨K, hK⟩ := g2u (c := c) (hd := hd) hm
 have hg := s3t (c := c) (hd := hd) hm K
 have ht := d4h (c := c) (hd := hd) hm K
 have hl := c0q hm hg.n hg.o
 have hp : ∀ k : Nat, k < (b0h m c hd K).1.length -> ∃ q, (b0h m c hd K).1[k]? = some q /\ OkP m q := fun k hk => by
  obtain ⟨q, hq⟩ := b3b hk
  exact ⟨q, hq, hg.o q (b1d.2 ⟨k, hq⟩)⟩
 obtain ⟨r, h1, h2, h3, h4⟩ := d73 (w := b4a m c hd K) (g := ⟨(b0h m c hd K).1, (b0h m c hd K).2.1, (b0h m c hd K).2.2⟩) hg ht hl ⟨rfl, rfl⟩ rfl ⟨rfl, rfl⟩ rfl
  (wanted := fun z5 => b9g z5 ⟨⟨m⟩⟩ never (b4a m c hd K)) (p := fun k => b46 m ((b0h m c hd K).1.getD k zero) 0 never) (fun k hk => by
   obtain ⟨q, hq, ho⟩ := hp k hk
   unfold b9g b4a
   simp only [b1h hq, bS9, c5w hm.z ho.s hn, List.getD_eq_getElem?_getD, hq, Option.getD_some])
 refine ⟨r, _, ?_, d7v hm hc hh' hK, ?_, h2, K, hK, ?_⟩
 ·unfold c1t
  rw [d7u hm hc hh hK, bS9, h1]; rfl
 ·unfold c1x c6d
  refine h3 _ (fun k hk => ?_) ?_
  ·obtain ⟨q, hq, ho⟩ := hp k hk
   unfold c6c
   simp only [Int.ofNat_lt, hk, decide_true, if_true, b1h hq, bS9, c5x hm.z ho.s hn, List.getD_eq_getElem?_getD, hq, Option.getD_some, b2r hk (b1o (by omega))]
  ·unfold c6c
   simp only [Int.lt_irrefl, decide_false, fT9, if_false]
 ·rcases h4 with ⟨rfl, h5⟩ | ⟨k, q, P, rfl, h6, h7, h8, h9, h10, h11⟩
  ·refine .inl ⟨rfl, fun q hq => ?_⟩
   obtain ⟨k, hk⟩ := b1d.1 hq
   have := h5 k (b1k hk)
   simpa only [List.getD_eq_getElem?_getD, hk, Option.getD_some] using this
  ·refine .inr ⟨k, q, P, rfl, h6, ?_, fun j q' hj hq' => ?_, h9, h10, h11⟩
   ·simpa only [List.getD_eq_getElem?_getD, h6, Option.getD_some] using h7
   ·have := h8 j hj
    simpa only [List.getD_eq_getElem?_getD, hq', Option.getD_some] using this
end
end
end Go.Nw.UM
namespace Go.Nw.UM
noncomputable section
abbrev idn : Nat -> Int := fun x => (x : Int)
section
variable (m : Machine) (c : List (List Literal)) (P : List Place)
def hit (cur : List Bool) (i : Nat) : Bool := (List.range (2 ^ m.Inputs.length)).any fun j => c25 m (P.getD i zero) j c && cur.getD (P.idxOf (nxt m (P.getD i zero) (idn j))) false
end
section
variable {m : Machine} {c : List (List Literal)} {P : List Place}
end
def d17 (m : Machine) (c rest : List (List Literal)) (p : Place) : Prop := ∃ l q, o8f m c idn p l q /\ b46 m q 0 rest = true
structure Calm (m : Machine) (c rest : List (List Literal)) (P : List Place) (cur : List Bool) : Prop where
 n : cur.length = P.length
 s : ∀ i, i < P.length -> cur.getD i false = true -> d17 m c rest (P.getD i zero)
 r : ∀ i, i < P.length -> b46 m (P.getD i zero) 0 rest = true -> cur.getD i false = true
section
variable {m : Machine} {c rest : List (List Literal)} {P : List Place}
end
section
variable {m : Machine} {c rest : List (List Literal)} {K : Nat}
end
end
end Go.Nw.UM
