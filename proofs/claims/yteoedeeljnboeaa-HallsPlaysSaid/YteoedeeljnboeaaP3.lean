/- Plain laws on the models. -/
import Derived.Test.YteoedeeljnboeaaP2
set_option linter.all false
set_option linter.unusedVariables false
set_option linter.unusedSimpArgs false
set_option linter.unusedSectionVars false
namespace Go.Nw.HM
def d28 (f t : Nat) (x : Train) : Prop := (f : Int) ≤ x.At.High ∧ x.At.Low ≤ (t : Int)
instance (f t : Nat) (x : Train) : Decidable (d28 f t x) := by unfold d28; infer_instance
section
variable {h : Hall} (hv : V h) {c : Nat} (hc : c < h.Combs.length) {t : Nat} (ht : t < T h)
include hv
include hc ht
end
end Go.Nw.HM
namespace Go.Nw.HM
section
variable {h : Hall} (hv : V h)
include hv
end
theorem g40 {d : Day} (hd : b7i d) : ∃ b, b8e d = some b ∧ (d.At.length ≤ 20 → d.People.length ≤ 20 → d.Walks.length ≤ 20 → (∀ p ∈ d.People, p.length ≤ 10) → (∀ w ∈ d.Walks, w.length ≤ 30) → b = false) := by
  unfold b8e
  by_cases q : (20 < d.At.length ∨ 20 < d.People.length) ∨ 20 < d.Walks.length
  · rw [if_pos (by simp; omega)]
    exact ⟨true, rfl, fun h1 h2 h3 => by omega⟩
  · rw [if_neg (by simp; omega)]
    rcases b53 (f := b90 d) d.People (fun _ p => 10 < p.length) (.inr true) (.inl ()) (fun k p hp hb => by
        simp only [b90, b1e hp, Option.bind_some]
        rw [if_pos (by simpa using b1f hp), if_pos (by simp; omega)]) (fun k p hp hb => by
        simp only [b90, b1e hp, Option.bind_some]
        rw [if_pos (by simpa using b1f hp), if_neg (by simp; omega), b2n (b1f hp) hd.2.1.1]) (by simp [b90]) with ⟨h1, h2⟩ | ⟨⟨k, p, hp, hb⟩, h2⟩
    · rw [h2]
      simp only [Option.bind_some, c5n]
      rcases b53 (f := b9z d) d.Walks (fun _ p => 30 < p.length) (.inr true) (.inl ()) (fun k p hp hb => by
          simp only [b9z, b1e hp, Option.bind_some]
          rw [if_pos (by simpa using b1f hp), if_pos (by simp; omega)]) (fun k p hp hb => by
          simp only [b9z, b1e hp, Option.bind_some]
          rw [if_pos (by simpa using b1f hp), if_neg (by simp; omega), b2n (b1f hp) hd.2.2.1]) (by simp [b9z]) with ⟨w1, w2⟩ | ⟨⟨k, p, hp, hb⟩, w2⟩
      · rw [w2]
        exact ⟨false, rfl, fun _ _ _ _ _ => rfl⟩
      · rw [w2]
        exact ⟨true, rfl, fun _ _ _ _ h5 => by have := h5 p (List.mem_of_getElem? hp); omega⟩
    · rw [h2]
      exact ⟨true, rfl, fun _ _ _ h4 _ => by have := h4 p (List.mem_of_getElem? hp); omega⟩
end Go.Nw.HM
namespace Go.Nw.HM
theorem c5x {α β : Type} {a a' : α} {b b' : β} (h1 : a = a') (h2 : b = b') : (a, b) = (a', b') := by subst h1; subst h2; rfl
section
variable {h : Hall} {d : Day} (hv : V h) (hf : Fit h d)
include hv hf
theorem j64 : b07 (b99 h d) (b1m (T h) h.Combs.length fun _ _ => 0, 0) = some (b1m (T h) h.Combs.length (arr h d)) := by
  have hT := b4w hv
  have hN := hv.1.2.2.2.1
  have hTr := hv.1.2.2.2.2.1
  refine b4t (f := b99 h d) h.Trains.length (fun s k => (s, k)) (fun i => b1m (T h) h.Combs.length fun t c => b1r (b3r h d t c) i) _ (s0 := b1m (T h) h.Combs.length fun _ _ => 0) rfl (fun i hi => ?_) (by
    simp only [b99]
    rw [if_neg (by simp)]; rfl)
  obtain ⟨x, a, hx, ha, hda, haT, _, _, htr⟩ := d2p hv hf hi
  simp only [b99]
  rw [if_pos (by simpa using hi)]
  have hcl := c71 hv hi
  rw [htr] at hcl
  have := b4t (f := c2o h d i) x.Crowds.length (fun s k => (s, k)) (fun k => b1m (T h) h.Combs.length fun t c => b1r (b3r h d t c) i + if dAt d i = (t : Int) then b1r (b4q h d c i) k else 0) (b1m (T h) h.Combs.length fun t c => b1r (b3r h d t c) (i + 1))
    (s0 := b1m (T h) h.Combs.length fun t c => b1r (b3r h d t c) i) (b3n fun t _ c _ => by simp [c2j]) (fun k hk => by
      obtain ⟨y, hy⟩ := b2a hk
      obtain ⟨p, hp⟩ := b2a (show i < d.People.length by rw [hf.people]; exact hi)
      obtain ⟨_, g2, _⟩ := hf.ride i x a p hx ha hp
      obtain ⟨n, hn⟩ := b2a (show k < p.length by omega)
      have hpe : dPe d i k = n := by unfold dPe; rw [hp]; simp [hn]
      have hb := d1a hv hf hi (k := k) (by rw [htr]; exact hk)
      have hgc := (hv.2.2.1 i x hx).2.2.2.2 k y hy
      have hyc : 0 ≤ y.Comb := by
        have key : ∀ (j : Nat) (z : Crowd), x.Crowds[j]? = some z → -1 < z.Comb := by
          intro j
          induction j with
          | zero => intro z hz; exact ((hv.2.2.1 i x hx).2.2.2.2 0 z hz).2.2.2.2
          | succ j ih =>
            intro z hz
            obtain ⟨z', hz'⟩ := b2a (show j < x.Crowds.length by have := b1f hz; omega)
            have := ih z' hz'
            have := ((hv.2.2.1 i x hx).2.2.2.2 (j + 1) z hz).2.2.2.2 z' hz'
            omega
        have := key k y hy; omega
      obtain ⟨b, hb'⟩ : ∃ b : Nat, y.Comb = b := ⟨y.Comb.toNat, by omega⟩
      have hbN : b < h.Combs.length := by unfold b4i at hgc; omega
      have hcr : crC h i k = b := by unfold crC; rw [htr, hy, ← hb']; rfl
      have hs := c3x hv hf (t := a) (c := b) (k := i) (by omega)
      have hs2 := c7r hv hf (c := b) hi (k := k) (by rw [htr]; omega)
      simp only [c2o, b1e hx, b1e hy, b1e ha, b1e hp, b1e hn, Option.bind_some]
      rw [if_pos (by simpa using hk), b45 haT]
      simp only [Option.bind_some, hb']
      rw [b3y hbN]
      simp only [Option.bind_some]
      rw [show ((a : Nat) : Int).toNat = a from by omega, show ((b : Nat) : Int).toNat = b from by omega, b2n hk (show x.Crowds.length ≤ maxLen by simp only [maxLen]; omega), hda, if_pos rfl, b5p (by omega) (by omega),
        c0h (g := fun t c => b1r (b3r h d t c) i + if ((a : Nat) : Int) = (t : Int) then b1r (b4q h d c i) k else 0)]
      congr 3
      refine b3n fun t ht c hc => ?_
      by_cases e : t = a
      · subst e
        rw [if_pos rfl]
        by_cases e2 : c = b
        · subst e2
          rw [if_pos ⟨rfl, rfl⟩, b49]
          simp only [b4q, hcr, if_true, hpe]
          omega
        · rw [if_neg (by omega), if_pos rfl, b49]
          simp only [b4q, hcr]
          rw [if_neg (c := (b : Int) = c) (by omega)]; omega
      · rw [if_neg (by omega), if_neg (by omega), if_neg (by omega)]) (by
    simp only [c2o, b1e hx, Option.bind_some]
    rw [if_neg (by simp)]
    congr 2
    refine b3n fun t _ c _ => ?_
    rw [b49]
    unfold b3r
    rw [htr])
  rw [this]
  simp only [Option.bind_some, c58, b2n hi (show h.Trains.length ≤ maxLen by simp only [maxLen]; omega)]
def mC (h : Hall) (c t : Nat) : Nat → Nat := fun u => if u < c then T h else if u = c then t else 0
def b3j (c t : Nat) (g : Nat → Nat → Int) (s e : Nat) : Int := if e < c ∨ (e = c ∧ s < t) then g s e else 0
omit hv hf in
theorem j0c {c : Nat} : mC h c (T h) = mC h (c + 1) 0 := by
  funext u
  unfold mC
  by_cases q : u < c
  · rw [if_pos q, if_pos (by omega)]
  · by_cases q2 : u = c
    · rw [if_neg q, if_pos q2, if_pos (by omega)]
    · rw [if_neg q, if_neg q2, if_neg (by omega)]; split <;> rfl
omit hv hf in
theorem d9s {c : Nat} {g : Nat → Nat → Int} {s e : Nat} (hs : s < T h) : b3j c (T h) g s e = b3j (c + 1) 0 g s e := by
  unfold b3j
  by_cases q : e < c ∨ (e = c ∧ s < T h)
  · rw [if_pos q, if_pos (by omega)]
  · rw [if_neg q, if_neg (by omega)]
theorem g30 {c : Nat} (hc : c < h.Combs.length) :
    b07 (c0a h d c (tab (T h) (b2p h c))) (b1m (T h) h.Combs.length (Cm h d (mC h c 0)), b1m (T h) h.Combs.length (b3j c 0 (nn h d)), b1m (T h) h.Combs.length (b3j c 0 (ps h d)), 0, 0) =
      some (b1m (T h) h.Combs.length (Cm h d (mC h (c + 1) 0)), b1m (T h) h.Combs.length (b3j (c + 1) 0 (nn h d)), b1m (T h) h.Combs.length (b3j (c + 1) 0 (ps h d))) := by
  have hT := b4w hv
  have hTi := b7k hv
  have hN := hv.1.2.2.2.1
  refine b4t (f := c0a h d c (tab (T h) (b2p h c))) (T h) (fun (p : List (List Int) × List (List Int) × List (List Int) × Int) k => (p.1, p.2.1, p.2.2.1, p.2.2.2, k))
    (fun t => (b1m (T h) h.Combs.length (Cm h d (mC h c t)), b1m (T h) h.Combs.length (b3j c t (nn h d)), b1m (T h) h.Combs.length (b3j c t (ps h d)), if 0 < t then lf h d (t - 1) c else 0)) _
    (s0 := (b1m (T h) h.Combs.length (Cm h d (mC h c 0)), b1m (T h) h.Combs.length (b3j c 0 (nn h d)), b1m (T h) h.Combs.length (b3j c 0 (ps h d)), 0)) rfl (fun t ht => ?_) (by
      simp only [c0a]
      rw [← hTi, if_neg (by simp), j0c]
      congr 3
      refine c5x ?_ ?_
      · exact b3n fun s hs e _ => d9s hs
      · exact b3n fun s hs e _ => d9s hs)
  obtain ⟨x, hx, hnx, hnb⟩ := d08 hv hc
  obtain ⟨x', w, hx', hw, hw1, hw2, hwv, _, _, hk1, hk2⟩ := d1z hv hf hc t
  have hmT : ∀ u, u < h.Combs.length → mC h c t u ≤ T h := fun u _ => by unfold mC; split <;> first | omega | (split <;> omega)
  have hmc : mC h c t c = t := by unfold mC; rw [if_neg (by omega), if_pos rfl]
  have hmu : ∀ u, u ≠ c → mC h c (t + 1) u = mC h c t u := fun u hu => by unfold mC; rw [if_neg hu, if_neg hu]
  have hmc' : mC h c (t + 1) c = mC h c t c + 1 := by rw [hmc]; unfold mC; rw [if_neg (by omega), if_pos rfl]
  have hnn : nn h d t c = Cm h d (mC h c t) t c + if 0 < t then lf h d (t - 1) c else 0 := d8a hv hf fun u hu hn => by
    obtain ⟨z, hz, hzn, hzb⟩ := d08 hv hu
    have : u < c := by omega
    unfold mC; rw [if_pos this]; omega
  have hnb2 := d06 hv hf t ht c
  have hr := c6a hv (c := c) t
  have hpb := c2m hv hf ht c
  have eps : min (nn h d t c) (b2p h c t) = ps h d t c := rfl
  have elf : nn h d t c - ps h d t c = lf h d t c := rfl
  have ecm := c7k hv hf hmT t c
  have hw0 : wr ((if 0 < t then lf h d (t - 1) c else 0) + Cm h d (mC h c t) t c) = nn h d t c := by
    rw [show (if 0 < t then lf h d (t - 1) c else 0) + Cm h d (mC h c t) t c = nn h d t c by rw [hnn]; exact Int.add_comm _ _]
    exact b5p (by omega) (by omega)
  have hset : ∀ g : Nat → Nat → Int, (b1m (T h) h.Combs.length (b3j c t g)).set t ((tab h.Combs.length (b3j c t g t)).set c (g t c)) = b1m (T h) h.Combs.length (b3j c (t + 1) g) := fun g => by
    rw [c0h]
    refine b3n fun s hs e he => ?_
    unfold b3j
    by_cases q : s = t ∧ e = c
    · rw [if_pos q, if_pos (by omega), q.1, q.2]
    · rw [if_neg q]
      by_cases q2 : e < c ∨ (e = c ∧ s < t)
      · rw [if_pos q2, if_pos (by omega)]
      · rw [if_neg q2, if_neg (by omega)]
  have hlast : ∀ g : Nat → Nat → Int, b3j c (t + 1) g t c = g t c := fun g => by unfold b3j; rw [if_pos (by omega)]
  simp only [c0a]
  rw [← hTi, if_pos (by simpa using ht), b45 ht]
  simp only [Option.bind_some]
  rw [b45 ht]
  simp only [Option.bind_some]
  rw [b3y hc]
  simp only [Option.bind_some]
  rw [b3y hc]
  simp only [Option.bind_some]
  rw [b45 ht]
  simp only [Option.bind_some]
  rw [show ((t : Nat) : Int).toNat = t from by omega, show ((c : Nat) : Int).toNat = c from by omega, hw0, hset, b45 ht]
  simp only [Option.bind_some]
  rw [b3y hc]
  simp only [Option.bind_some, hlast]
  rw [b3y ht]
  simp only [Option.bind_some]
  rw [b3y hc]
  simp only [Option.bind_some, d01, eps]
  rw [hset, b45 ht]
  simp only [Option.bind_some]
  rw [b3y hc]
  simp only [Option.bind_some, hlast]
  rw [b1e hw]
  simp only [Option.bind_some]
  rw [d8y hw1]
  simp only [Option.bind_some]
  rw [b1e hwv]
  simp only [Option.bind_some]
  rw [b1e hx]
  simp only [Option.bind_some]
  rw [show wr ((t : Int) + (wlk d c t : Int)) = ((t + wlk d c t : Nat) : Int) from by rw [b5p (by omega) (by omega)]; omega, elf, b5p (n := lf h d t c) (by omega) (by omega)]
  by_cases q : 0 ≤ x.Next ∧ t + wlk d c t < T h
  · obtain ⟨e', he'⟩ : ∃ e' : Nat, x.Next = e' := ⟨x.Next.toNat, by omega⟩
    rw [if_pos (by simp; omega), b45 q.2]
    simp only [Option.bind_some, he']
    rw [b3y (show e' < h.Combs.length by omega)]
    simp only [Option.bind_some, c0b]
    have hb3 := c7k hv hf hmT (t + wlk d c t) e'
    rw [show ((t + wlk d c t : Nat) : Int).toNat = t + wlk d c t from by omega, show ((e' : Nat) : Int).toNat = e' from by omega, c0h, b2n ht (show T h ≤ maxLen by simp only [maxLen]; omega), b5p (by omega) (by omega), if_pos (show 0 < t + 1 by omega), Nat.add_sub_cancel]
    congr 3
    refine b3n fun s hs e he => ?_
    rw [c7l hc hmu hmc', hmc]
    unfold Wt
    by_cases q2 : s = t + wlk d c t ∧ e = e'
    · obtain ⟨rfl, rfl⟩ := q2
      rw [if_pos ⟨rfl, rfl⟩, if_pos ⟨by omega, rfl⟩]
    · rw [if_neg q2, if_neg (by omega)]; omega
  · rw [if_neg (by simp; omega)]
    simp only [c0b]
    rw [b2n ht (show T h ≤ maxLen by simp only [maxLen]; omega), if_pos (show 0 < t + 1 by omega), Nat.add_sub_cancel]
    congr 3
    refine b3n fun s hs e he => ?_
    rw [c7l hc hmu hmc', hmc]
    unfold Wt
    rw [if_neg (by omega)]; omega
theorem g1b : ∃ come pass, c2n h d = some (come, b1m (T h) h.Combs.length (nn h d), pass) := by
  have hT := b4w hv
  have hTi := b7k hv
  have hN := hv.1.2.2.2.1
  unfold c2n
  have l1 := b4t (f := c2q h) (T h) (fun (p : List (List Int) × List (List Int) × List (List Int)) k => (p.1, p.2.1, p.2.2, k)) (fun k => (b1m k h.Combs.length fun _ _ => 0, b1m k h.Combs.length fun _ _ => 0, b1m k h.Combs.length fun _ _ => 0))
    (b1m (T h) h.Combs.length fun _ _ => 0, b1m (T h) h.Combs.length fun _ _ => 0, b1m (T h) h.Combs.length fun _ _ => 0) (s0 := ([], [], [])) rfl (fun t ht => by
    simp only [c2q]
    rw [← hTi, if_pos (by simpa using ht), c2h (by omega) (by omega)]
    simp only [Option.bind_some]
    rw [c7q (by simp only [c3d, List.length_cons, List.length_nil]; omega)]
    simp only [Option.bind_some, b2n ht (show T h ≤ maxLen by simp only [maxLen]; omega)]
    rw [d9l]) (by
    simp only [c2q]
    rw [← hTi, if_neg (by simp)])
  simp only at l1
  rw [l1]
  simp only [Option.bind_some, c56]
  rw [j64 hv hf]
  simp only [Option.bind_some, c57]
  have e0 : ∀ s e, Cm h d (mC h 0 0) s e = arr h d s e := fun s e => by
    unfold Cm
    rw [c5u fun u _ => by show b1r _ (mC h 0 0 u) = 0; unfold mC; rw [if_neg (by omega), show (if u = 0 then 0 else 0) = 0 by split <;> rfl]; exact c2j]
    omega
  have l2 := b4t (f := c2p h d) h.Combs.length (fun (p : List (List Int) × List (List Int) × List (List Int)) k => (p.1, p.2.1, p.2.2, k)) (fun c => (b1m (T h) h.Combs.length (Cm h d (mC h c 0)), b1m (T h) h.Combs.length (b3j c 0 (nn h d)), b1m (T h) h.Combs.length (b3j c 0 (ps h d))))
    (b1m (T h) h.Combs.length (Cm h d (mC h h.Combs.length 0)), b1m (T h) h.Combs.length (nn h d), b1m (T h) h.Combs.length (ps h d))
    (s0 := (b1m (T h) h.Combs.length (arr h d), b1m (T h) h.Combs.length fun _ _ => 0, b1m (T h) h.Combs.length fun _ _ => 0)) (by
      refine c5x (b3n fun s _ e _ => (e0 s e).symm) (c5x (b3n fun s _ e _ => ?_) (b3n fun s _ e _ => ?_))
      · unfold b3j; rw [if_neg (by omega)]
      · unfold b3j; rw [if_neg (by omega)]) (fun c hc => by
    simp only [c2p]
    rw [if_pos (by simpa using hc), d8v hv hc]
    simp only [Option.bind_some]
    rw [g30 hv hf hc]
    simp only [Option.bind_some, c55, b2n hc (show h.Combs.length ≤ maxLen by simp only [maxLen]; omega)]) (by
    simp only [c2p]
    rw [if_neg (by simp)]
    congr 3
    refine c5x (b3n fun s _ e he => ?_) (b3n fun s _ e he => ?_)
    · unfold b3j; rw [if_pos (by omega)]
    · unfold b3j; rw [if_pos (by omega)])
  simp only at l2
  rw [l2]
  exact ⟨_, _, rfl⟩
end
theorem d2g {l : List Int} (hl : l.length ≤ maxLen) : c0c l l = some true := by
  unfold c0c
  rw [if_neg (by simp)]
  rw [d0z (f := c2r l l) l.length (fun (_ : Unit) k => k) (fun _ => ()) (.inl ()) (fun k hk => by
    obtain ⟨x, hx⟩ := b2a hk
    simp only [c2r, b1e hx, Option.bind_some]
    rw [if_pos (by simpa using hk), if_neg (by simp), b2n hk hl]) (by simp [c2r])]
  rfl
theorem j6h {l : List (List Int)} (hl : l.length ≤ maxLen) (hr : ∀ r ∈ l, r.length ≤ maxLen) : c2d l l = some true := by
  unfold c2d
  rw [if_neg (by simp)]
  rw [d0z (f := c2e l l) l.length (fun (_ : Unit) k => k) (fun _ => ()) (.inl ()) (fun k hk => by
    obtain ⟨x, hx⟩ := b2a hk
    simp only [c2e, b1e hx, Option.bind_some]
    rw [if_pos (by simpa using hk), d2g (hr x (List.mem_of_getElem? hx))]
    simp only [Option.bind_some]
    rw [if_neg (by simp), b2n hk hl]) (by simp [c2e])]
  rfl
theorem d1b (hw : b6h = some true) {h : Hall} {d : Day} {comb : Int} {b : Bool} {a : List Int} {x : List (List Int)} {e g k : Int} (hF : ((b8d h).bind fun y4 => (if y4 then some true else (b8e d).bind fun y5 => some y5)) = some b)
    (h1 : b59 h comb = some (a, e)) (h2 : b7c h comb = some (a, e)) (h3 : b6u h d = some (x, g)) (h4 : b8h h d = some (x, g)) (h5 : b3z h = some k) (h6 : b4m h = some k)
    (ha : a.length ≤ maxLen) (hx : x.length ≤ maxLen) (hr : ∀ r ∈ x, r.length ≤ maxLen) : b9y h d comb = some true := by
  unfold b9y
  rw [← Option.bind_assoc, hF]
  simp only [Option.bind_some]
  cases b with
  | true => rw [if_pos rfl, hw]; rfl
  | false =>
    rw [if_neg (by simp), h1, h2, h3, h4, h5, h6]
    simp only [Option.bind_some]
    rw [if_pos (by simp), d2g ha]
    simp only [Option.bind_some]
    rw [if_pos (by simp), j6h hx hr]
    simp only [Option.bind_some]
    rw [if_pos trivial, hw]; rfl
theorem j49 (hw : b6h = some true) (h : Hall) (d : Day) (comb : Int) (hk : b5c h) (hd : b7i d) (_ : b2x comb) : b9y h d comb = some true := by
  obtain ⟨b, hb⟩ : ∃ b, ((b8d h).bind fun y4 => (if y4 then some true else (b8e d).bind fun y5 => some y5)) = some b := by
    obtain ⟨b, hb⟩ := g04 hk
    obtain ⟨b2, hb2, _⟩ := g40 hd
    rw [hb]
    cases b with
    | true => exact ⟨true, rfl⟩
    | false => exact ⟨b2, by simp only [Option.bind_some]; rw [if_neg (by simp), hb2]; rfl⟩
  rcases d2a hk with ⟨hv, c1, c2⟩ | ⟨_, c1, c2⟩
  · have hT := b4w hv
    have hN := hv.1.2.2.2.1
    have rates : ∃ a e, b59 h comb = some (a, e) ∧ b7c h comb = some (a, e) ∧ a.length ≤ maxLen := by
      by_cases q : 0 ≤ comb ∧ comb < h.Combs.length
      · obtain ⟨c, rfl⟩ : ∃ c : Nat, comb = c := ⟨comb.toNat, by omega⟩
        have hc : c < h.Combs.length := by omega
        refine ⟨_, _, g1a hv hc, ?_, by rw [b5o]; simp only [maxLen]; omega⟩
        unfold b7c
        rw [c2]
        simp only [Option.bind_some]
        rw [if_neg (by simp), if_neg, d8v hv hc]
        · rfl
        · simp only [c0d, b2g, c6q (show h.Combs.length ≤ maxLen by simp only [maxLen]; omega), Bool.not_eq_true', Bool.and_eq_false_iff, decide_eq_false_iff_not]
          omega
      · refine ⟨[], 1, ?_, ?_, by simp [maxLen]⟩
        · unfold b59
          rw [d3c hv comb [] (by simp [maxLen]), if_neg fun hh => q hh.1]
          rfl
        · unfold b7c
          rw [c2]
          simp only [Option.bind_some]
          rw [if_neg (by simp), if_pos]
          simp only [c0d, b2g, c6q (show h.Combs.length ≤ maxLen by simp only [maxLen]; omega), Bool.not_eq_true', Bool.and_eq_false_iff, decide_eq_false_iff_not]
          omega
    obtain ⟨a, e, r1, r2, r3⟩ := rates
    rcases g42 hv hd with ⟨hf, e3⟩ | ⟨nf, e3⟩
    · obtain ⟨come, pass, e4⟩ := g1b hv hf
      refine d1b hw hb r1 r2 (g09 hv hf hd) ?_ c1 c2 r3 (by rw [c3d]; simp only [maxLen]; omega) fun r hr => ?_
      · unfold b8h
        rw [c2]
        simp only [Option.bind_some]
        rw [if_neg (by simp), e3]
        simp only [Option.bind_some]
        rw [if_neg (by simp), e4]; rfl
      · obtain ⟨i, _, rfl⟩ := j6w hr
        rw [b5o]; simp only [maxLen]; omega
    · refine d1b hw hb (x := []) (g := 61) r1 r2 ?_ ?_ c1 c2 r3 (by simp) (by simp)
      · unfold b6u
        rw [c1]
        simp only [Option.bind_some]
        rcases d7g hv hd with ⟨hf, _⟩ | ⟨_, e5⟩
        · exact absurd hf nf
        · rw [if_neg (by simp), e5]; rfl
      · unfold b8h
        rw [c2]
        simp only [Option.bind_some]
        rw [if_neg (by simp), e3]; rfl
  · refine d1b hw hb (a := []) (e := 60) (x := []) (g := 60) ?_ ?_ ?_ ?_ c1 c2 (by simp) (by simp) (by simp)
    · unfold b59 b5z
      rw [c1]; rfl
    · unfold b7c
      rw [c2]; rfl
    · unfold b6u
      rw [c1]; rfl
    · unfold b8h
      rw [c2]; rfl
end Go.Nw.HM
