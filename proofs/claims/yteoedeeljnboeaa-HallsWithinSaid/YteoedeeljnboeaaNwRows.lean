/- Rows of one's own: slices whose elements are slices of one's own, written in place. -/
import Derived.Test.YteoedeeljnboeaaNwOwn
set_option linter.all false
set_option linter.unusedVariables false
set_option linter.unusedSimpArgs false
set_option linter.unusedSectionVars false
namespace Go.Nw
def eW (w : AV) : List AV := [w]
theorem ln_eW (x : AV) : (eW x).length = 1 := rfl
theorem set_eW {l : List AV} {n : Nat} {v : AV} : (List.map eW l).set n [v] = List.map eW (l.set n v) := by rw [List.map_set]; rfl
attribute [go_sem] eW set_eW
abbrev nilS : AV := .v (.slice none 0 0)
/-- A number is none of those that a slice of rows leads to. -/
def RNot (v : AV) (hs : List AV) (k : Nat) : Prop := NotId v k ∧ ∀ w ∈ hs, NotId w k
/-- A slice of rows: its handles, and what the rows hold. -/
structure RR {α : Type} (h : Heap) (v : AV) (hs : List AV) (sz : Nat) (f : α → List AV) (rows : List (List α)) : Prop where
  top : OwnS h v 1 (List.map eW hs)
  len : hs.length = rows.length
  row : ∀ (i : Nat) w r, hs[i]? = some w → rows[i]? = some r → OwnS h w sz (List.map f r)
  off : ∀ (i : Nat) w, hs[i]? = some w → ∀ k, ¬ NotId v k → NotId w k
  apart : ∀ (i j : Nat) w u, i ≠ j → hs[i]? = some w → hs[j]? = some u → ∀ k, ¬ NotId w k → NotId u k

section
variable {α : Type} {h h' : Heap} {v w : AV} {hs : List AV} {sz : Nat} {f : α → List AV} {rows : List (List α)} {i : Int} {x : List α}

theorem rn_top {k : Nat} (hk : RNot v hs k) : NotId v k := hk.1
theorem rn_row {k : Nat} (hk : RNot v hs k) (hw : get hs i = some w) : NotId w k := hk.2 w (List.mem_of_getElem? (get_at hw))
theorem rn_ne {k ir lo n : Nat} (hk : RNot v hs k) (hw : get hs i = some (.rs ir lo n)) : ¬ ir = k := rn_row hk hw
theorem rn_ne0 {k iq lo n : Nat} (hk : RNot (.rs iq lo n) hs k) : ¬ iq = k := hk.1
theorem rnot_nil {k : Nat} : RNot nilS [] k := ⟨trivial, fun _ h => by simp at h⟩
theorem rnot_of {k : Nat} (h1 : NotId v k) (h2 : ∀ (i : Nat) w, hs[i]? = some w → NotId w k) : RNot v hs k := ⟨h1, fun w hw => by
  obtain ⟨i, hi, rfl⟩ := List.getElem_of_mem hw
  exact h2 i _ (List.getElem?_eq_getElem hi)⟩
theorem not_rnot {k : Nat} (hk : ¬ RNot v hs k) : ¬ NotId v k ∨ ∃ (i : Nat) (w : AV), hs[i]? = some w ∧ ¬ NotId w k := by
  by_cases h1 : NotId v k
  · refine .inr (Classical.byContradiction fun hn => hk (rnot_of h1 fun i w hw => Classical.byContradiction fun h2 => hn ⟨i, w, hw, h2⟩))
  · exact .inl h1
theorem own_lt {rows : List (List AV)} (hv : OwnS h v sz rows) {k : Nat} (hk : ¬ NotId v k) : k < h.nx := by
  rcases hv with ⟨rfl, _⟩ | ⟨id, rfl, _, hlt⟩
  · exact absurd trivial hk
  · have : id = k := by simpa [NotId] using hk
    omega
theorem rr_lt (R : RR h v hs sz f rows) {k : Nat} (hk : ¬ RNot v hs k) : k < h.nx := by
  rcases not_rnot hk with h1 | ⟨i, w, hw, h1⟩
  · exact own_lt R.top h1
  · have hi : i < rows.length := by rw [← R.len]; exact (List.getElem?_eq_some_iff.1 hw).1
    exact own_lt (R.row i w _ hw (List.getElem?_eq_getElem hi)) h1
theorem rr_late (R : RR h v hs sz f rows) {k : Nat} (hk : h.nx ≤ k) : RNot v hs k := Classical.byContradiction fun hn => by have := rr_lt R hn; omega
theorem rr_sym {u : AV} {us : List AV} (hd : ∀ j, ¬ RNot u us j → RNot v hs j) : ∀ j, ¬ RNot v hs j → RNot u us j := fun j hj => Classical.byContradiction fun hn => hj (hd j hn)
theorem rm_sym {u : AV} (hd : ∀ j, ¬ NotId u j → RNot v hs j) : ∀ j, ¬ RNot v hs j → NotId u j := fun j hj => Classical.byContradiction fun hn => hj (hd j hn)
theorem rr_ne {k j : Nat} (hj : ¬ RNot v hs j) (hk : RNot v hs k) : ¬ j = k := fun e => hj (e ▸ hk)

theorem rr_nil : RR h nilS [] sz f [] := ⟨.inl ⟨rfl, rfl⟩, rfl, fun i w r hw => by simp at hw, fun i w hw => by simp at hw, fun i j w u _ hw => by simp at hw⟩
/-- In a later heap. -/
theorem rr_later (R : RR h v hs sz f rows) (hk : ∀ j, ¬ RNot v hs j → j < h.nx → h'.ob j = h.ob j) (hn : h.nx ≤ h'.nx) : RR h' v hs sz f rows :=
  ⟨own_later R.top (fun j hj hl => hk j (fun hh => hj hh.1) hl) hn, R.len,
    fun i w r hw hr => own_later (R.row i w r hw hr) (fun j hj hl => hk j (fun hh => hj (hh.2 w (List.mem_of_getElem? hw))) hl) hn, R.off, R.apart⟩
/-- A row that is there. -/
theorem rr_row (R : RR h v hs sz f rows) (hx : get rows i = some x) : ∃ w, get hs i = some w ∧ OwnS h w sz (List.map f x) := by
  have h0 := get_nn hx
  have h1 := get_at hx
  have hlt : i.toNat < hs.length := by rw [R.len]; exact (List.getElem?_eq_some_iff.1 h1).1
  exact ⟨hs[i.toNat], by simp [get, h0, hlt], R.row _ _ _ (List.getElem?_eq_getElem hlt) h1⟩
theorem rr_al (R : RR h v hs sz f rows) (hw : get hs i = some w) (hx : get rows i = some x) : OwnS h w sz (List.map f x) := R.row _ _ _ (get_at hw) (get_at hx)
theorem rr_top (R : RR h v hs sz f rows) (hx : get rows i = some x) : ∃ iq, v = .rs iq 0 (List.length rows) ∧ h.ob iq = some (1, List.map eW hs) ∧ iq < h.nx := by
  have hlt := get_lt hx
  have := get_nn hx
  rcases R.top with ⟨_, h1⟩ | ⟨iq, h1, h2, h3⟩
  · have : hs = [] := by simpa using h1
    have := R.len; simp_all; omega
  · exact ⟨iq, by rw [h1]; simp [R.len], h2, h3⟩
/-- A row of it is not its own block. -/
theorem rr_top_ne {iq ir lo n m lo' : Nat} (R : RR h (.rs iq lo n) hs sz f rows) (hw : get hs i = some (.rs ir lo' m)) : ¬ ir = iq := by
  have := R.off _ _ (get_at hw) iq (by simp [NotId])
  simpa [NotId] using this
theorem rr_len {k : Int → Prop} (R : RR h v hs sz f rows) : @ilen v ⟨k⟩ = k (List.length rows : Int) := by
  rcases R.top with ⟨rfl, h1⟩ | ⟨iq, rfl, h2, h3⟩
  · have : hs = [] := by simpa using h1
    have := R.len
    have e : rows.length = 0 := by simp_all
    rw [ilen_nil, e]; rfl
  · rw [ilen_rs, List.length_map, R.len]
theorem own_len {α : Type} {f : α → List AV} {l : List α} {k : Int → Prop} (hv : OwnS h v sz (List.map f l)) : @ilen v ⟨k⟩ = k (List.length l : Int) := by
  rcases hv with ⟨rfl, h1⟩ | ⟨iq, rfl, h2, h3⟩
  · have e : l = [] := by simpa using h1
    subst e; rw [ilen_nil]; rfl
  · rw [ilen_rs, List.length_map]
/-- An element of a row is written. -/
theorem rr_upd {ir n : Nat} {y : List α} (R : RR h v hs sz f rows) (hx : get rows i = some x) (hw : get hs i = some (.rs ir 0 n)) (ho : h'.ob ir = some (sz, List.map f y)) (hl : y.length = x.length)
    (hk : ∀ j, ¬ RNot v hs j → ¬ j = ir → j < h.nx → h'.ob j = h.ob j) (hn : h.nx ≤ h'.nx) : RR h' v hs sz f (List.set rows (Int.toNat i) y) := by
  have hwi := get_at hw
  have hxi := get_at hx
  have hrow := R.row _ _ _ hwi hxi
  have hirlt : ir < h.nx := own_lt hrow (by simp [NotId])
  refine ⟨own_later R.top (fun j hj hlt => hk j (fun hh => hj hh.1) (fun e => ?_) hlt) hn, by simp [R.len], fun k u r hu hr => ?_, R.off, R.apart⟩
  · have := R.off _ _ hwi j hj
    rw [e] at this; simp [NotId] at this
  · by_cases e : k = i.toNat
    · subst e
      rw [hwi] at hu; cases hu
      have hlt : i.toNat < rows.length := (List.getElem?_eq_some_iff.1 hxi).1
      rw [List.getElem?_set_self hlt] at hr; cases hr
      rcases hrow with ⟨h1, _⟩ | ⟨id, h1, h2, h3⟩
      · cases h1
      · cases h1
        exact .inr ⟨ir, by simp [hl], ho, by omega⟩
    · rw [List.getElem?_set_ne (by omega)] at hr
      refine own_later (R.row k u r hu hr) (fun j hj hlt => hk j (fun hh => hj (hh.2 u (List.mem_of_getElem? hu))) (fun e2 => ?_) hlt) hn
      have := R.apart k i.toNat u _ e hu hwi j hj
      rw [e2] at this; simp [NotId] at this
/-- A row is put in the place of another one. -/
theorem rr_put {iq lo n : Nat} {u : AV} {y : List α} (R : RR h (.rs iq lo n) hs sz f rows) (hx : get rows i = some x) (ho : h'.ob iq = some (1, List.map eW (List.set hs (Int.toNat i) u))) (hu : OwnS h' u sz (List.map f y))
    (hd : ∀ k, ¬ NotId u k → RNot (.rs iq lo n) hs k) (hk : ∀ j, ¬ RNot (.rs iq lo n) hs j → ¬ j = iq → j < h.nx → h'.ob j = h.ob j) (hn : h.nx ≤ h'.nx) :
    RR h' (.rs iq lo n) (List.set hs (Int.toNat i) u) sz f (List.set rows (Int.toNat i) y) := by
  have hxi := get_at hx
  have hlt : i.toNat < rows.length := (List.getElem?_eq_some_iff.1 hxi).1
  have hlt' : i.toNat < hs.length := by rw [R.len]; exact hlt
  obtain ⟨e1, e2, e3⟩ : lo = 0 ∧ n = hs.length ∧ iq < h.nx := by
    rcases R.top with ⟨h1, _⟩ | ⟨id, h1, h2, h3⟩
    · cases h1
    · cases h1; exact ⟨rfl, by simp, h3⟩
  subst e1 e2
  have hcase : ∀ {k : Nat} {z : AV}, (List.set hs (Int.toNat i) u)[k]? = some z → (k = i.toNat ∧ z = u) ∨ (k ≠ i.toNat ∧ hs[k]? = some z) := fun {k z} hz => by
    by_cases e : k = i.toNat
    · subst e; rw [List.getElem?_set_self hlt'] at hz; cases hz; exact .inl ⟨rfl, rfl⟩
    · rw [List.getElem?_set_ne (by omega)] at hz; exact .inr ⟨e, hz⟩
  refine ⟨.inr ⟨iq, by simp, ho, by omega⟩, by simp [R.len], fun k z r hz hr => ?_, fun k z hz j hj => ?_, fun k m z z' hne hz hz' j hj => ?_⟩
  · rcases hcase hz with ⟨rfl, rfl⟩ | ⟨e, hz⟩
    · rw [List.getElem?_set_self hlt] at hr; cases hr; exact hu
    · rw [List.getElem?_set_ne (by omega)] at hr
      refine own_later (R.row k z r hz hr) (fun j hj hl => hk j (fun hh => hj (hh.2 z (List.mem_of_getElem? hz))) (fun e2 => ?_) hl) hn
      subst e2
      exact hj (R.off k z hz _ (by simp [NotId]))
  · rcases hcase hz with ⟨rfl, rfl⟩ | ⟨e, hz⟩
    · exact Classical.byContradiction fun hc => hj (hd j hc).1
    · exact R.off k z hz j hj
  · rcases hcase hz with ⟨rfl, rfl⟩ | ⟨e, hz1⟩ <;> rcases hcase hz' with ⟨rfl, rfl⟩ | ⟨e', hz2⟩
    · exact absurd rfl hne
    · exact (hd j hj).2 z' (List.mem_of_getElem? hz2)
    · exact Classical.byContradiction fun hc => hj ((hd j hc).2 z (List.mem_of_getElem? hz1))
    · exact R.apart k m z z' hne hz1 hz2 j hj
/-- Made of so many rows that are nil. -/
theorem rr_make {l : List (List α)} {id n : Nat} (ho : h.ob id = some (1, List.map eW (List.map (fun _ => nilS) l))) (hn : n = List.length l) (hl : id < h.nx) (hz : ∀ r ∈ l, r = []) : RR h (.rs id 0 n) (List.map (fun _ => nilS) l) sz f l := by
  subst hn
  have hc : ∀ {i : Nat} {w : AV}, (List.map (fun _ : List α => nilS) l)[i]? = some w → w = nilS := fun {i w} hw => by
    rw [List.getElem?_map] at hw
    cases e : l[i]? with
    | none => rw [e] at hw; cases hw
    | some a => rw [e] at hw; cases hw; rfl
  refine ⟨.inr ⟨id, by simp, ho, hl⟩, by simp, fun i w r hw hr => ?_, fun i w hw k _ => ?_, fun i j w u _ hw hu k hk => ?_⟩
  · rw [hc hw, hz r (List.mem_of_getElem? hr)]; exact own_nil
  · rw [hc hw]; trivial
  · rw [hc hu]; trivial
theorem mks_nil {b : Nat} {n : Int} {l : List (List α)} (h : mks b n [] = some l) : ∀ r ∈ l, r = [] := by
  obtain ⟨_, _, _, rfl⟩ := mks_get h
  intro r hr
  exact (List.mem_replicate.1 hr).2
theorem imksl_rr {α : Type} {b : Nat} {n : Int} {l : List (List α)} {h : Heap} {k : AV → Heap → Prop} (hm : mks b n [] = some l)
    (hk : k (.rs h.nx 0 (List.length l)) (h.new (1, List.map eW (List.map (fun _ => nilS) l)))) : @imksl 1 [.slice none 0 0] b (I n) (I n) h ⟨k⟩ := by
  obtain ⟨h0, h1, h2, rfl⟩ := mks_get hm
  refine imksl_ok (f := eW) (z := nilS) (l := List.replicate n.toNat nilS) rfl (mks_ok h0 h1 h2) ?_
  rw [List.length_replicate] at hk ⊢
  rw [List.map_replicate] at hk
  exact hk
/-- One row more. -/
theorem iapp_rr {b id2 : Nat} {r : List (List α)} {y : List α} {u : AV} {k : AV → Heap → Prop} (R : RR h v hs sz f rows) (hx : h.ob id2 = some (1, [[u]])) (hd : RNot v hs id2) (ha : ap b rows [y] = some r)
    (hk : k (.rs h.nx 0 (List.length r)) (appH h v (1, List.map eW (hs ++ [u])))) : @iapp 1 b v (.rs id2 0 1) h ⟨k⟩ := by
  obtain ⟨hb, rfl⟩ := ap_get ha
  refine iapp_raw (f := eW) (a := u) (l := hs) (raw := [u]) (r := hs ++ [u]) R.top hx hd.1 (ap_ok (by simpa [R.len] using hb)) ?_
  rw [List.length_append] at hk ⊢
  rw [List.map_append] at hk
  rw [R.len]
  exact hk
theorem rr_app {b id n : Nat} {r : List (List α)} {y : List α} {u : AV} (R : RR h v hs sz f rows) (ha : ap b rows [y] = some r) (ho : h'.ob id = some (1, List.map eW (hs ++ [u]))) (hl : n = List.length r) (hi : id < h'.nx) (hu : OwnS h' u sz (List.map f y))
    (hd : ∀ k, ¬ NotId u k → RNot v hs k) (hf : h.nx ≤ id) (hun : NotId u id) (hk : ∀ j, ¬ RNot v hs j → NotId v j → j < h.nx → h'.ob j = h.ob j) (hn : h.nx ≤ h'.nx) : RR h' (.rs id 0 n) (hs ++ [u]) sz f r := by
  obtain ⟨_, rfl⟩ := ap_get ha
  subst hl
  have hcase : ∀ {k : Nat} {z : AV}, (hs ++ [u])[k]? = some z → (k = hs.length ∧ z = u) ∨ (k < hs.length ∧ hs[k]? = some z) := fun {k z} hz => by
    by_cases e : k < hs.length
    · rw [List.getElem?_append_left e] at hz; exact .inr ⟨e, hz⟩
    · rw [List.getElem?_append_right (by omega)] at hz
      cases e2 : k - hs.length with
      | zero => rw [e2] at hz; simp at hz; exact .inl ⟨by omega, hz.symm⟩
      | succ m => rw [e2] at hz; simp at hz
  have hrl : ∀ {k : Nat} {z : AV}, hs[k]? = some z → ∃ q, rows[k]? = some q := fun {k z} hz => by
    have : k < rows.length := by rw [← R.len]; exact (List.getElem?_eq_some_iff.1 hz).1
    exact ⟨_, List.getElem?_eq_getElem this⟩
  refine ⟨.inr ⟨id, by simp [R.len], ho, hi⟩, by simp [R.len], fun k z q hz hr => ?_, fun k z hz j hj => ?_, fun k m z z' hne hz hz' j hj => ?_⟩
  · rcases hcase hz with ⟨rfl, rfl⟩ | ⟨e, hz⟩
    · rw [R.len, List.getElem?_append_right (Nat.le_refl _)] at hr
      simp at hr; subst hr; exact hu
    · rw [List.getElem?_append_left (by rw [← R.len]; exact e)] at hr
      refine own_later (R.row k z q hz hr) (fun j hj hl => hk j (fun hh => hj (hh.2 z (List.mem_of_getElem? hz))) (Classical.byContradiction fun h2 => hj (R.off k z hz j h2)) hl) hn
  · have e : id = j := by simpa [NotId] using hj
    subst e
    rcases hcase hz with ⟨rfl, rfl⟩ | ⟨e, hz⟩
    · exact hun
    · obtain ⟨q, hq⟩ := hrl hz
      exact Classical.byContradiction fun hc => by have := own_lt (R.row k z q hz hq) hc; omega
  · rcases hcase hz with ⟨rfl, rfl⟩ | ⟨e, hz1⟩ <;> rcases hcase hz' with ⟨rfl, rfl⟩ | ⟨e', hz2⟩
    · exact absurd rfl hne
    · exact (hd j hj).2 z' (List.mem_of_getElem? hz2)
    · exact Classical.byContradiction fun hc => hj ((hd j hc).2 z (List.mem_of_getElem? hz1))
    · exact R.apart k m z z' hne hz1 hz2 j hj
/-- What they read as. -/
theorem rr_fz {e : List α → List AV} (R : RR h v hs sz f rows) (he : ∀ r, e r = [.fs sz (List.map f r)]) (hf : ∀ a, ∀ c ∈ f a, Frz c) (hl : ∀ a, (f a).length = sz) : Fz h v (.fs 1 (List.map e rows)) := by
  rcases R.top with ⟨rfl, h1⟩ | ⟨iq, rfl, h2, h3⟩
  · have e1 : hs = [] := by simpa using h1
    have := R.len
    have e2 : rows = [] := by cases rows with | nil => rfl | cons => simp_all
    rw [e2]; exact .nil 1
  · refine .rs iq 0 _ 1 _ _ h2 (by simp) (by simp [R.len]) (fun d hd => ?_) (fun i j c d h1 h2 => ?_)
    · obtain ⟨a, _, rfl⟩ := List.mem_map.1 hd; rw [he]; rfl
    · rw [Nat.zero_add] at h1
      obtain ⟨e1, he1, hc⟩ := at2_mem2 h1
      obtain ⟨e2, he2, hd⟩ := at2_mem2 h2
      rw [List.getElem?_map] at he1 he2
      cases hw : hs[i]? with
      | none => rw [hw] at he1; cases he1
      | some w =>
        cases hr : rows[i]? with
        | none => rw [hr] at he2; cases he2
        | some r =>
          rw [hw] at he1; rw [hr] at he2
          simp only [Option.map_some, Option.some.injEq] at he1 he2
          subst he1 he2
          rw [he] at hd
          cases j with
          | zero => simp [eW] at hc hd; subst hc hd; exact fz_own (R.row i w r hw hr) hf hl
          | succ j => simp [eW] at hc
def rvidb (v : AV) (hs : List AV) (j : Nat) : Bool := vidb v j || hs.any fun w => vidb w j
theorem rvidb_is {j : Nat} (hj : ¬ RNot v hs j) : rvidb v hs j = true := by
  unfold rvidb
  rcases not_rnot hj with h1 | ⟨i, w, hw, h1⟩
  · rw [vidb_is h1]; rfl
  · rw [Bool.or_eq_true]; exact .inr (List.any_eq_true.2 ⟨w, List.mem_of_getElem? hw, vidb_is h1⟩)
theorem rvidb_no (R : RR h v hs sz f rows) {j : Nat} (hj : RNot v hs j) : rvidb v hs j = false := by
  unfold rvidb
  rw [Bool.or_eq_false_iff]
  refine ⟨vidb_own R.top hj.1, ?_⟩
  rw [List.any_eq_false]
  intro w hw
  obtain ⟨i, hi, rfl⟩ := List.getElem_of_mem hw
  have hi' : i < rows.length := by rw [← R.len]; exact hi
  rw [vidb_own (R.row i _ _ (List.getElem?_eq_getElem hi) (List.getElem?_eq_getElem hi')) (hj.2 _ hw)]
  simp
theorem rr_only {F : Nat → Bool} (R : RR h v hs sz f rows) (hF : ∀ j, ¬ RNot v hs j → F j = true) : RR (h.only F) v hs sz f rows :=
  rr_later R (fun j hj _ => only_ob (hF j hj)) (Nat.le_refl _)
end
theorem dr_rs {v : AV} {hs : List AV} {id lo n : Nat} (h : RNot v hs id) : ∀ k, ¬ NotId (.rs id lo n) k → RNot v hs k := fun k hk => by
  have e : id = k := by simpa [NotId] using hk
  exact e ▸ h
theorem dr_nil {a : Value} {Q : Nat → Prop} : ∀ k, ¬ NotId (.v a) k → Q k := fun _ h => (h trivial).elim
theorem rnot_make {α : Type} {id lo n k : Nat} {l : List α} (h : ¬ id = k) : RNot (.rs id lo n) (List.map (fun _ => nilS) l) k := ⟨h, fun w hw => by
  obtain ⟨_, _, rfl⟩ := List.mem_map.1 hw; trivial⟩
theorem rnot_put {v u : AV} {hs : List AV} {i k : Nat} (h : RNot v hs k) (hu : NotId u k) : RNot v (List.set hs i u) k := ⟨h.1, fun w hw => by
  rcases List.mem_or_eq_of_mem_set hw with h1 | rfl
  · exact h.2 w h1
  · exact hu⟩
theorem rnot_app {v u : AV} {hs : List AV} {id lo n k : Nat} (h : RNot v hs k) (hu : NotId u k) (hi : ¬ id = k) : RNot (.rs id lo n) (hs ++ [u]) k := ⟨hi, fun w hw => by
  rcases List.mem_append.1 hw with h1 | h1
  · exact h.2 w h1
  · rw [List.mem_singleton.1 h1]; exact hu⟩
theorem own_late {h : Heap} {v : AV} {sz : Nat} {rows : List (List AV)} (hv : OwnS h v sz rows) : ∀ i, h.nx ≤ i → NotId v i := fun _ hi => own_notid hv hi
theorem rr_lates {α : Type} {h : Heap} {v : AV} {hs : List AV} {sz : Nat} {f : α → List AV} {rows : List (List α)} (R : RR h v hs sz f rows) : ∀ i, h.nx ≤ i → NotId v i := fun _ hi => (rr_late R hi).1
theorem nle0 {n : Nat} : (n ≤ n) = True := by simp
theorem nle1 {n : Nat} : (n ≤ nxs n) = True := by simp only [nxs, eq_iff_iff, iff_true]; omega
theorem nle2 {n : Nat} : (n ≤ nxs (nxs n)) = True := by simp only [nxs, eq_iff_iff, iff_true]; omega
theorem nle3 {n : Nat} : (n ≤ nxs (nxs (nxs n))) = True := by simp only [nxs, eq_iff_iff, iff_true]; omega
theorem nle4 {n : Nat} : (n ≤ nxs (nxs (nxs (nxs n)))) = True := by simp only [nxs, eq_iff_iff, iff_true]; omega
theorem nle5 {n : Nat} : (n ≤ nxs (nxs (nxs (nxs (nxs n))))) = True := by simp only [nxs, eq_iff_iff, iff_true]; omega
theorem nle6 {n : Nat} : (n ≤ nxs (nxs (nxs (nxs (nxs (nxs n)))))) = True := by simp only [nxs, eq_iff_iff, iff_true]; omega
theorem nle7 {n : Nat} : (n ≤ nxs (nxs (nxs (nxs (nxs (nxs (nxs n))))))) = True := by simp only [nxs, eq_iff_iff, iff_true]; omega
theorem nle8 {n : Nat} : (n ≤ nxs (nxs (nxs (nxs (nxs (nxs (nxs (nxs n)))))))) = True := by simp only [nxs, eq_iff_iff, iff_true]; omega
theorem nle9 {n : Nat} : (n ≤ nxs (nxs (nxs (nxs (nxs (nxs (nxs (nxs (nxs n))))))))) = True := by simp only [nxs, eq_iff_iff, iff_true]; omega
theorem nle10 {n : Nat} : (n ≤ nxs (nxs (nxs (nxs (nxs (nxs (nxs (nxs (nxs (nxs n)))))))))) = True := by simp only [nxs, eq_iff_iff, iff_true]; omega
theorem nle11 {n : Nat} : (n ≤ nxs (nxs (nxs (nxs (nxs (nxs (nxs (nxs (nxs (nxs (nxs n))))))))))) = True := by simp only [nxs, eq_iff_iff, iff_true]; omega
theorem nle12 {n : Nat} : (n ≤ nxs (nxs (nxs (nxs (nxs (nxs (nxs (nxs (nxs (nxs (nxs (nxs n)))))))))))) = True := by simp only [nxs, eq_iff_iff, iff_true]; omega
attribute [go_sem] nle0 nle1 nle2 nle3 nle4 nle5 nle6 nle7 nle8 nle9 nle10 nle11 nle12
theorem okCells_fp {a b} : okCells (.fp a b) = true := rfl
theorem cellsOf_fp {a b} : cellsOf (.fp a b) = [.fp a b] := rfl
theorem okCells_rp {a b c} : okCells (.rp a b c) = true := rfl
theorem cellsOf_rp {a b c} : cellsOf (.rp a b c) = [.rp a b c] := rfl
theorem okCells_fn {a b c} : okCells (.fn a b c) = true := rfl
theorem cellsOf_fn {a b c} : cellsOf (.fn a b c) = [.fn a b c] := rfl
theorem okCells_str {a} : okCells (.v (.string a)) = true := rfl
attribute [go_sem] okCells_fp cellsOf_fp okCells_rp cellsOf_rp okCells_fn cellsOf_fn okCells_str
theorem notid_ne {id lo n i : Nat} (h : NotId (.rs id lo n) i) : ¬ id = i := h
theorem di_rs1 {id lo n : Nat} {w : AV} (h : ∀ j, ¬ NotId (.rs id lo n) j → NotId w j) : NotId w id := h id (by simp [NotId])
end Go.Nw
