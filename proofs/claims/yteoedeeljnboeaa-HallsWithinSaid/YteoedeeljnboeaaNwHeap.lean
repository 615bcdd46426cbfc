/- Own objects: rules for what makes, reads, writes and hands them over. -/
import Derived.Test.YteoedeeljnboeaaNwModel
set_option linter.all false
set_option linter.unusedVariables false
set_option linter.unusedSimpArgs false
set_option linter.unusedSectionVars false
namespace Go.Nw

theorem new_ob_lt {h : Heap} {o : Ob} {i : Nat} (hl : i < h.nx) : (h.new o).ob i = h.ob i := by
  simp only [Heap.new]; rw [if_neg (by omega)]
theorem new_ob_eq {h : Heap} {o : Ob} {i : Nat} (hl : i = h.nx) : (h.new o).ob i = some o := by
  simp only [Heap.new]; rw [if_pos hl]
theorem upd_ob_no {h : Heap} {o : Option Ob} {i j : Nat} (hl : ¬ i = j) : (h.upd j o).ob i = h.ob i := by
  simp only [Heap.upd]; rw [if_neg hl]
theorem upd_ob_is {h : Heap} {o : Option Ob} {i j : Nat} (hl : i = j) : (h.upd j o).ob i = o := by
  simp only [Heap.upd]; rw [if_pos hl]
theorem iand_true {p : Prop} : @iand True ⟨p⟩ = p := by simp [iand]
theorem irow_get {α : Type} {f : α → List AV} {l : List α} {i : Int} {x : α} {sz : Nat} {k : Nat → List (List AV) → List AV → Prop} (hx : get l i = some x) :
    @irow (some (sz, List.map f l)) i.toNat ⟨k⟩ = k sz (List.map f l) (f x) := by
  show rowK _ _ _ = _
  simp only [rowK_some, List.getElem?_map, get_at hx, Option.map_some, Option.some.injEq]
  apply propext; constructor
  · rintro ⟨_, rfl, hk⟩; exact hk
  · exact fun hk => ⟨_, rfl, hk⟩
theorem set_eI {l : List Int} {n : Nat} {v : Int} : (List.map eI l).set n [I v] = List.map eI (l.set n v) := by rw [List.map_set]; rfl
theorem set_eB {l : List Bool} {n : Nat} {v : Bool} : (List.map eB l).set n [B v] = List.map eB (l.set n v) := by rw [List.map_set]; rfl

/- Slices made of so many zero elements. -/
def mks {α : Type} (b : Nat) (n : Int) (z : α) : Option (List α) := if 0 ≤ n ∧ n * b ≤ 2 ^ 47 ∧ n < 2 ^ 63 then some (List.replicate n.toNat z) else none
theorem mks_get {α : Type} {b : Nat} {n : Int} {z : α} {l : List α} (h : mks b n z = some l) : 0 ≤ n ∧ n * b ≤ 2 ^ 47 ∧ n < 2 ^ 63 ∧ l = List.replicate n.toNat z := by
  unfold mks at h; split at h
  · rename_i hc; cases h; exact ⟨hc.1, hc.2.1, hc.2.2, rfl⟩
  · cases h
theorem mks_ok {α : Type} {b : Nat} {n : Int} {z : α} (h0 : 0 ≤ n) (h1 : n * b ≤ 2 ^ 47) (h2 : n < 2 ^ 63) : mks b n z = some (List.replicate n.toNat z) := by
  unfold mks; rw [if_pos ⟨h0, h1, h2⟩]
/- Lists put one behind the other, where they fit. -/
def ap {α : Type} (b : Nat) (l m : List α) : Option (List α) := if (l.length + m.length) * b ≤ 2 ^ 40 then some (l ++ m) else none
theorem ap_get {α : Type} {b : Nat} {l m r : List α} (h : ap b l m = some r) : (l.length + m.length) * b ≤ 2 ^ 40 ∧ r = l ++ m := by
  unfold ap at h; split at h
  · rename_i hc; cases h; exact ⟨hc, rfl⟩
  · cases h
theorem ap_ok {α : Type} {b : Nat} {l m : List α} (h : (l.length + m.length) * b ≤ 2 ^ 40) : ap b l m = some (l ++ m) := by
  unfold ap; rw [if_pos h]

def imksl (sz : Nat) (zs : List Value) (b : Nat) (l c : AV) (h : Heap) [k : K2] : Prop := ∃ r h', eff (.mksl sz zs b (.t 0) (.t 1)) (evT fun i => if i = 0 then l else c) h = some (r, h') ∧ k.k r h'
def iapp (sz b : Nat) (s x : AV) (h : Heap) [k : K2] : Prop := ∃ r h', eff (.app sz b (.t 0) (.t 1)) (evT fun i => if i = 0 then s else x) h = some (r, h') ∧ k.k r h'
def ibsl (sz : Nat) (vs : List AV) (h : Heap) [k : K2] : Prop := (vs.all fun x => okCells x && (cellsOf x).length == sz) = true ∧ k.k (.rs h.nx 0 vs.length) (h.new (sz, vs.map cellsOf))

section
variable {O : Orac} {d : Option Nat} {g : Nat} {b0 : Bool} {r : List XO} {K : Slots → Heap → Prop} {t : Slots} {h : Heap} {k : AV → Heap → Prop}
theorem ic_mksl {sz zs b l c} : cops O (⟨d, none, .mksl sz zs b l c⟩ :: r) K t h = @iop O (.mksl sz zs b l c) t h ⟨fun v h' => cops O r K (putT t d v) h'⟩ := cops_cons rfl
theorem ig_mksl {sz zs b l c} : cops O (⟨d, some (g, b0), .mksl sz zs b l c⟩ :: r) K t h = @iguard (t g) b0 ⟨@iop O (.mksl sz zs b l c) (upd t g (B b0)) h ⟨fun v h' => cops O r K (putT (upd t g (B b0)) d v) h'⟩⟩ ⟨cops O r K (putT (upd t g (B (!b0))) d U) h⟩ ⟨cops O r K (putT t d U) h⟩ := cops_guardU rfl
theorem ic_app {sz b s x} : cops O (⟨d, none, .app sz b s x⟩ :: r) K t h = @iop O (.app sz b s x) t h ⟨fun v h' => cops O r K (putT t d v) h'⟩ := cops_cons rfl
theorem ig_app {sz b s x} : cops O (⟨d, some (g, b0), .app sz b s x⟩ :: r) K t h = @iguard (t g) b0 ⟨@iop O (.app sz b s x) (upd t g (B b0)) h ⟨fun v h' => cops O r K (putT (upd t g (B b0)) d v) h'⟩⟩ ⟨cops O r K (putT (upd t g (B (!b0))) d U) h⟩ ⟨cops O r K (putT t d U) h⟩ := cops_guardU rfl
theorem ic_bsl {sz vs} : cops O (⟨d, none, .bsl sz vs⟩ :: r) K t h = @iop O (.bsl sz vs) t h ⟨fun v h' => cops O r K (putT t d v) h'⟩ := cops_cons rfl
theorem ig_bsl {sz vs} : cops O (⟨d, some (g, b0), .bsl sz vs⟩ :: r) K t h = @iguard (t g) b0 ⟨@iop O (.bsl sz vs) (upd t g (B b0)) h ⟨fun v h' => cops O r K (putT (upd t g (B b0)) d v) h'⟩⟩ ⟨cops O r K (putT (upd t g (B (!b0))) d U) h⟩ ⟨cops O r K (putT t d U) h⟩ := cops_guardU rfl
theorem io_mksl {sz zs b l c} : @iop O (.mksl sz zs b l c) t h ⟨k⟩ = @imksl sz zs b (evT t l) (evT t c) h ⟨k⟩ := by
  simp only [iop, op1, imksl, eff, evT, if_true, Nat.one_ne_zero, if_false]
theorem io_app {sz b s x} : @iop O (.app sz b s x) t h ⟨k⟩ = @iapp sz b (evT t s) (evT t x) h ⟨k⟩ := by
  simp only [iop, op1, iapp, eff, evT, if_true, Nat.one_ne_zero, if_false]
theorem io_bsl {sz vs} : @iop O (.bsl sz vs) t h ⟨k⟩ = @ibsl sz (vs.map (evT t)) h ⟨k⟩ := by
  simp only [iop, op1, ibsl, eff, List.length_map]
  apply propext; constructor
  · rintro ⟨r, h', he, hk⟩
    split at he
    · rename_i hc; cases he; exact ⟨hc, hk⟩
    · cases he
  · rintro ⟨hc, hk⟩
    exact ⟨_, _, by rw [if_pos hc], hk⟩
theorem ibsl_eq {sz vs} : @ibsl sz vs h ⟨k⟩ = @iand ((vs.all fun x => okCells x && (cellsOf x).length == sz) = true) ⟨k (.rs h.nx 0 vs.length) (h.new (sz, vs.map cellsOf))⟩ := rfl

theorem imksl_ok {α : Type} {f : α → List AV} {z : α} {sz : Nat} {zs : List Value} {b : Nat} {n : Int} {l : List α} (hz : zs.map .v = f z) (hm : mks b n z = some l)
    (hk : k (.rs h.nx 0 (List.length l)) (h.new (sz, List.map f l))) : @imksl sz zs b (I n) (I n) h ⟨k⟩ := by
  obtain ⟨h0, h1, h2, rfl⟩ := mks_get hm
  rw [List.length_replicate, List.map_replicate, ← hz] at hk
  refine ⟨_, _, ?_, hk⟩
  simp only [eff, evT, if_true, Nat.one_ne_zero, if_false]
  rw [if_pos ⟨trivial, h0, h1, h2⟩]

/-- The heap behind an append. -/
def appH (h : Heap) (v : AV) (o : Ob) : Heap := (match v with | .rs id _ _ => h.upd id none | _ => h).new o
theorem appH_nil {a : Option Addr} {b c : Nat} {o : Ob} : appH h (.v (.slice a b c)) o = h.new o := rfl
theorem appH_rs {id lo len : Nat} {o : Ob} : appH h (.rs id lo len) o = (h.upd id none).new o := rfl
/-- A slice of one's own, or nil. -/
def OwnS (h : Heap) (v : AV) (sz : Nat) (rows : List (List AV)) : Prop := (v = .v (.slice none 0 0) ∧ rows = []) ∨ ∃ id, v = .rs id 0 rows.length ∧ h.ob id = some (sz, rows) ∧ id < h.nx
/-- What an append takes its elements from. -/
def OwnX (h : Heap) (v : AV) (sz : Nat) (rows : List (List AV)) : Prop := v = .fs sz rows ∨ ∃ id, v = .rs id 0 rows.length ∧ h.ob id = some (sz, rows)
/-- A value does not lead to an object. -/
def NotId (v : AV) (i : Nat) : Prop := match v with | .rs id _ _ => ¬ id = i | _ => True

theorem iapp_own {α : Type} {f : α → List AV} {sz b : Nat} {s x : AV} {l m r : List α} (hs : OwnS h s sz (List.map f l)) (hx : OwnX h x sz (List.map f m)) (hd : ∀ i, ¬ NotId s i → NotId x i) (hn : s = .v (.slice none 0 0) → ¬ m = [])
    (ha : ap b l m = some r) (hk : k (.rs h.nx 0 (List.length r)) (appH h s (sz, List.map f r))) : @iapp sz b s x h ⟨k⟩ := by
  obtain ⟨hb, rfl⟩ := ap_get ha
  rw [List.length_append, List.map_append] at hk
  refine ⟨_, _, ?_, hk⟩
  simp only [eff, evT, if_true, Nat.one_ne_zero, if_false]
  rcases hs with ⟨rfl, hl⟩ | ⟨id, rfl, ho, hlt⟩
  · have hl' : l = [] := by simpa using hl
    subst hl'
    have hm : ¬ m.length = 0 := fun e => hn rfl (List.length_eq_zero_iff.1 e)
    rcases hx with rfl | ⟨id2, rfl, ho2⟩
    · simp only [List.length_map, hm, if_false, List.map_nil, List.nil_append, List.length_nil, Nat.zero_add, appH_nil]
      rw [if_pos ⟨trivial, by simpa using hb⟩]
    · simp only [ho2, Option.bind_some, List.length_map, hm, if_false, List.map_nil, List.nil_append, List.length_nil, Nat.zero_add, appH_nil]
      rw [if_pos ⟨trivial, by simp, by simpa using hb⟩]
      simp [List.take_of_length_le]
  · rcases hx with rfl | ⟨id2, rfl, ho2⟩
    · simp only [ho, Option.bind_some, List.length_map, appH_rs]
      rw [if_pos ⟨trivial, trivial, by simp, hb⟩]
      simp [List.take_of_length_le]
    · have hne : id ≠ id2 := fun e => hd id (by simp [NotId]) e.symm
      simp only [ho, ho2, Option.bind_some, List.length_map, appH_rs]
      rw [if_pos ⟨trivial, trivial, hne, by simp, by simp, hb⟩]
      simp [List.take_of_length_le]
theorem own_nil {sz : Nat} : OwnS h (.v (.slice none 0 0)) sz [] := .inl ⟨rfl, rfl⟩
theorem own_nil' {α : Type} {f : α → List AV} {sz : Nat} : OwnS h (.v (.slice none 0 0)) sz (List.map f []) := .inl ⟨rfl, rfl⟩
theorem own_rs {id n sz : Nat} {rows : List (List AV)} (ho : h.ob id = some (sz, rows)) (hl : n = rows.length) (hn : id < h.nx) : OwnS h (.rs id 0 n) sz rows := .inr ⟨id, by rw [hl], ho, hn⟩
theorem ownx_rs {id n sz : Nat} {rows : List (List AV)} (ho : h.ob id = some (sz, rows)) (hl : n = rows.length) : OwnX h (.rs id 0 n) sz rows := .inr ⟨id, by rw [hl], ho⟩
theorem nd_rs {s : AV} {id lo n : Nat} (hs : NotId s id) : ∀ i, ¬ NotId s i → NotId (.rs id lo n) i := fun i hi e => hi (e ▸ hs)
theorem notid_nil {a : Value} {i : Nat} : NotId (.v a) i := trivial
theorem notid_rs {id lo n i : Nat} (hl : ¬ id = i) : NotId (.rs id lo n) i := hl
theorem own_notid {v : AV} {sz : Nat} {rows : List (List AV)} (hv : OwnS h v sz rows) {i : Nat} (hi : h.nx ≤ i) : NotId v i := by
  rcases hv with ⟨rfl, _⟩ | ⟨id, rfl, _, hlt⟩
  · trivial
  · exact fun e => by omega
/- What own slices read as. -/
theorem at2_mem2 {es : List (List AV)} {i j : Nat} {c : AV} (h : at2 es i j = some c) : ∃ e, es[i]? = some e ∧ e[j]? = some c := by
  unfold at2 at h
  cases he : es[i]? with
  | none => simp [he] at h
  | some e => exact ⟨e, rfl, by rw [he] at h; exact h⟩
theorem fz_own {α : Type} {f : α → List AV} {v : AV} {sz : Nat} {l : List α} (hv : OwnS h v sz (List.map f l)) (hf : ∀ a, ∀ c ∈ f a, Frz c) (hl : ∀ a, (f a).length = sz) : Fz h v (.fs sz (List.map f l)) := by
  rcases hv with ⟨rfl, hr⟩ | ⟨id, rfl, ho, _⟩
  · rw [hr]; exact .nil sz
  · refine .rs id 0 _ sz _ _ ho (by simp) rfl (fun d hd => ?_) (fun i j c d h1 h2 => ?_)
    · obtain ⟨a, _, rfl⟩ := List.mem_map.1 hd; exact hl a
    · rw [Nat.zero_add] at h1
      rw [h1] at h2; cases h2
      obtain ⟨e, he, hc⟩ := at2_mem2 h1
      obtain ⟨a, _, rfl⟩ := List.mem_map.1 (List.mem_of_getElem? he)
      exact .refl _ (hf a _ (List.mem_of_getElem? hc))
theorem fz_rs {α : Type} {f : α → List AV} {id n sz : Nat} {l : List α} (ho : h.ob id = some (sz, List.map f l)) (hn : n = List.length l) (hf : ∀ a, ∀ c ∈ f a, Frz c) (hl : ∀ a, (f a).length = sz) : Fz h (.rs id 0 n) (.fs sz (List.map f l)) := by
  subst hn
  refine .rs id 0 _ sz _ _ ho (by simp) (by simp) (fun d hd => ?_) (fun i j c d h1 h2 => ?_)
  · obtain ⟨a, _, rfl⟩ := List.mem_map.1 hd; exact hl a
  · rw [Nat.zero_add] at h1
    rw [h1] at h2; cases h2
    obtain ⟨e, he, hc⟩ := at2_mem2 h1
    obtain ⟨a, _, rfl⟩ := List.mem_map.1 (List.mem_of_getElem? he)
    exact .refl _ (hf a _ (List.mem_of_getElem? hc))
theorem fzl_get {xs ys : List AV} (hz : FzL h xs ys) : xs.length = ys.length ∧ ∀ (i : Nat) c d, xs[i]? = some c → ys[i]? = some d → Fz h c d := by
  induction hz with
  | nil => exact ⟨rfl, fun i c d hc => by simp at hc⟩
  | cons a _ ih =>
    refine ⟨by simp [ih.1], fun i c d hc hd => ?_⟩
    cases i with
    | zero => simp at hc hd; subst hc; subst hd; exact a
    | succ i => simp at hc hd; exact ih.2 i c d hc hd
theorem fz_tup {xs ys : List AV} (hz : FzL h xs ys) : Fz h (.tup xs) (.tup ys) := .tup _ _ (fzl_get hz).1 (fzl_get hz).2
theorem fz_agg {xs ys : List AV} (hz : FzL h xs ys) : Fz h (.agg xs) (.agg ys) := .agg _ _ (fzl_get hz).1 (fzl_get hz).2
theorem fz_rp {id sz : Nat} {xs ys : List AV} (ho : h.ob id = some (sz, [xs])) (hz : FzL h xs ys) : Fz h (.rp id 0 0) (.fp ys 0) := .rp id 0 0 sz _ _ _ ho rfl (fzl_get hz).1 (fzl_get hz).2

theorem done_fz {n : Nat} {v r : AV} (ht : t n = v) (hz : Fz h v r) : Done [.t n] r [] ⟨t, h⟩ := by
  subst ht; exact .inl ⟨rfl, [t n], rfl, hz⟩
theorem done_fz2 {n m : Nat} {v r u s : AV} (ht : t n = v) (hu : t m = u) (hz : Fz h v r) (hz' : Fz h u s) : Done [.t n, .t m] (.tup [r, s]) [] ⟨t, h⟩ := by
  subst ht; subst hu; exact .inl ⟨rfl, [t n, t m], rfl, fz_tup (.cons hz (.cons hz' .nil))⟩
/-- A struct result, in its cell. -/
theorem done_cell {n sz id m : Nat} {cs : List AV} {r : AV} (ht : t n = .rp id 0 0) (ho : h.ob id = some (m, [cs])) (hl : cs.length = sz) (hz : Fz h (.agg cs) r) : Done [.cell n true sz] r [] ⟨t, h⟩ := by
  refine .inl ⟨rfl, [.agg cs], ?_, hz⟩
  subst hl
  simp [resOf, eff, St.ev, ht, ho]
/- Ghost steps. -/
theorem cw_ghost {b : XCode} {Q : XExit → Slots → Heap → Prop} {t' : Slots} {h' : Heap} (hg : Ghost ⟨t, h⟩ ⟨t', h'⟩) (hw : cw O b Q t' h') : cw O (.seq .ghost b) Q t h := ⟨⟨t', h'⟩, hg, hw⟩
def frzH (h : Heap) (v : AV) : Heap := match v with | .rs id _ _ => h.upd id none | .rp id _ _ => h.upd id none | _ => h
theorem but_one {id : Nat} : h.upd id none = h.but (· == id) := by
  simp only [Heap.upd, Heap.but, Heap.mk.injEq, and_true]
  funext j; by_cases e : j = id <;> simp [e]
theorem but_none : h = h.but fun _ => false := by simp [Heap.but]
theorem ghost_but {F : Nat → Bool} {s : Nat} {y : AV} (hc : Cool (h.only F) (t s) y) : Ghost ⟨t, h⟩ ⟨upd t s y, h.but F⟩ := by
  refine ⟨F, rfl, rfl, fun id sz es' ho => ?_, fun j => ?_⟩
  · have ho' : (if F id then none else h.ob id) = some (sz, es') := ho
    split at ho'
    · cases ho'
    · rename_i hf
      exact ⟨by simpa using hf, es', ho', .inl rfl, fun i j d hd => ⟨d, hd, .inl rfl⟩⟩
  · show Cool _ (t j) (upd t s y j)
    by_cases e : j = s
    · subst e; rw [upd_same]; exact hc
    · rw [upd_ne e]; exact .inl rfl
theorem cw_ghost_none {b : XCode} {Q : XExit → Slots → Heap → Prop} (hw : cw O b Q t h) : cw O (.seq .ghost b) Q t h :=
  cw_ghost ⟨fun _ => false, rfl, rfl, fun id sz es' ho => ⟨rfl, es', ho, .inl rfl, fun i j d hd => ⟨d, hd, .inl rfl⟩⟩, fun _ => .inl rfl⟩ hw
theorem cw_ghost_own {α : Type} {f : α → List AV} {b : XCode} {Q : XExit → Slots → Heap → Prop} {s : Nat} {v : AV} {sz : Nat} {l : List α} (hs : t s = v) (hv : OwnS h v sz (List.map f l)) (hf : ∀ a, ∀ c ∈ f a, Frz c) (hl : ∀ a, (f a).length = sz)
    (hw : cw O b Q (upd t s (.fs sz (List.map f l))) (frzH h v)) : cw O (.seq .ghost b) Q t h := by
  subst hs
  have hfr : Frz (.fs sz (List.map f l)) := .fs _ _ fun e he c hc => by obtain ⟨a, _, rfl⟩ := List.mem_map.1 he; exact hf a c hc
  rcases hv with ⟨hv, hr⟩ | ⟨id, hv, ho, hlt⟩
  · refine cw_ghost (h' := frzH h (t s)) ?_ hw
    rw [hv]
    have := ghost_but (t := t) (h := h) (F := fun _ => false) (s := s) (y := .fs sz (List.map f l)) (.inr ⟨by rw [hv, hr]; exact .nil sz, hfr⟩)
    rw [← but_none] at this
    exact this
  · refine cw_ghost (h' := frzH h (t s)) ?_ hw
    rw [hv]
    have := ghost_but (t := t) (h := h) (F := (· == id)) (s := s) (y := .fs sz (List.map f l)) (.inr ⟨by rw [hv]; exact fz_rs (by simp [Heap.only, ho]) (by simp) hf hl, hfr⟩)
    rw [← but_one] at this
    exact this
theorem frzH_nil {a : Value} : frzH h (.v a) = h := rfl
theorem frzH_rs {id lo n : Nat} : frzH h (.rs id lo n) = h.upd id none := rfl
/-- The last row of a list leads to own objects: from now on it is only read. -/
theorem cw_ghost_row {α : Type} {f : α → List AV} {b : XCode} {Q : XExit → Slots → Heap → Prop} {id sz : Nat} {l : List α} {a : α} {raw : List AV} (F : Nat → Bool) (ho : h.ob id = some (sz, List.map f l ++ [raw])) (hi : F id = false)
    (hz : FzL (h.only F) raw (f a)) (hf : ∀ a, ∀ c ∈ f a, Frz c) (hl : ∀ a, (f a).length = sz) (hw : cw O b Q t ((h.but F).upd id (some (sz, List.map f (l ++ [a]))))) : cw O (.seq .ghost b) Q t h := by
  refine cw_ghost (t' := t) (h' := (h.but F).upd id (some (sz, List.map f (l ++ [a])))) ⟨F, rfl, rfl, fun j n es' hj => ?_, fun _ => .inl rfl⟩ hw
  have hj' : (if j = id then some (sz, List.map f (l ++ [a])) else (if F j then none else h.ob j)) = some (n, es') := hj
  split at hj'
  · rename_i e; subst e
    simp only [Option.some.injEq, Prod.mk.injEq] at hj'
    obtain ⟨rfl, rfl⟩ := hj'
    refine ⟨hi, _, ho, .inr ⟨by simp, fun e he => ?_⟩, fun i k d hd => ?_⟩
    · obtain ⟨x, _, rfl⟩ := List.mem_map.1 he; exact hl x
    · rw [List.map_append] at hd
      by_cases hik : i < l.length
      · refine ⟨d, ?_, .inl rfl⟩
        simp only [at2] at hd ⊢
        rw [List.getElem?_append_left (by simpa using hik)] at hd ⊢
        exact hd
      · by_cases he : i = l.length
        · subst he
          have h1 : at2 (List.map f l ++ List.map f [a]) l.length k = (f a)[k]? := by simp [at2]
          have h2 : at2 (List.map f l ++ [raw]) l.length k = raw[k]? := by simp [at2]
          rw [h1] at hd; rw [h2]
          have hlen := (fzl_get hz).1
          obtain ⟨hk, _⟩ := List.getElem?_eq_some_iff.1 hd
          have hk' : k < raw.length := by rw [hlen]; exact hk
          exact ⟨raw[k], List.getElem?_eq_getElem hk', .inr ⟨(fzl_get hz).2 k _ _ (List.getElem?_eq_getElem hk') hd, hf a _ (List.mem_of_getElem? hd)⟩⟩
        · exfalso
          have : at2 (List.map f l ++ List.map f [a]) i k = none := by
            have : (List.map f l ++ List.map f [a])[i]? = none := by rw [List.getElem?_eq_none_iff]; simp; omega
            unfold at2; rw [this]; rfl
          rw [this] at hd; cases hd
  · split at hj'
    · cases hj'
    · rename_i _ hf'
      exact ⟨by simpa using hf', es', hj', .inl rfl, fun i k d hd => ⟨d, hd, .inl rfl⟩⟩
/-- An append of one row that may lead on. -/
theorem iapp_raw {α : Type} {f : α → List AV} {sz b id2 : Nat} {s : AV} {l : List α} {r : List α} {a : α} {raw : List AV} (hs : OwnS h s sz (List.map f l)) (hx : h.ob id2 = some (sz, [raw])) (hd : NotId s id2)
    (ha : ap b l [a] = some r) (hk : k (.rs h.nx 0 (List.length r)) (appH h s (sz, List.map f l ++ [raw]))) : @iapp sz b s (.rs id2 0 1) h ⟨k⟩ := by
  obtain ⟨hb, rfl⟩ := ap_get ha
  rw [List.length_append] at hk
  refine ⟨_, _, ?_, hk⟩
  simp only [eff, evT, if_true, Nat.one_ne_zero, if_false]
  have hb' : (l.length + 1) * b ≤ 2 ^ 40 := by simpa using hb
  rcases hs with ⟨rfl, hl⟩ | ⟨id, rfl, ho, hlt⟩
  · have hl' : l = [] := by simpa using hl
    subst hl'
    simp only [hx, Option.bind_some, List.map_nil, List.nil_append, List.length_nil, List.length_cons, Nat.zero_add, appH_nil, Nat.one_ne_zero, if_false]
    rw [if_pos ⟨trivial, by simp, by simpa using hb'⟩]
    simp
  · have hne : id ≠ id2 := hd
    simp only [ho, hx, Option.bind_some, List.length_map, appH_rs]
    rw [if_pos ⟨trivial, trivial, hne, by simp, by simp, hb'⟩]
    simp [List.take_of_length_le]
end

theorem appH_nx {h : Heap} {v : AV} {o : Ob} : (appH h v o).nx = nxs h.nx := by cases v <;> rfl
theorem appH_ob {h : Heap} {v : AV} {o : Ob} {i : Nat} (hi : NotId v i) (hl : i < h.nx) : (appH h v o).ob i = h.ob i := by
  unfold appH
  split
  · rw [new_ob_lt (by exact hl), upd_ob_no]; exact fun e => hi e.symm
  · exact new_ob_lt hl
theorem appH_new {h : Heap} {v : AV} {o : Ob} {i : Nat} (hl : i = h.nx) : (appH h v o).ob i = some o := by
  unfold appH
  split
  · exact new_ob_eq hl
  · exact new_ob_eq hl
theorem frzH_nx {h : Heap} {v : AV} : (frzH h v).nx = h.nx := by cases v <;> rfl

attribute [go_sem ↓] ic_mksl ig_mksl ic_app ig_app ic_bsl ig_bsl io_mksl io_app io_bsl ibsl_eq iand_true
attribute [go_sem] ibsl_eq iand_true appH_nil appH_rs appH_nx frzH_nil frzH_rs frzH_nx Nat.zero_add set_eI set_eB
end Go.Nw
namespace Go.Nw
theorem dis_nil_l {a : Value} {w : AV} : ∀ j, ¬ NotId (.v a) j → NotId w j := fun _ hj => (hj trivial).elim
theorem dis_nil_r {v : AV} {a : Value} : ∀ j, ¬ NotId v j → NotId (.v a) j := fun _ _ => trivial
theorem dis_rs_l {id lo n : Nat} {w : AV} (hw : NotId w id) : ∀ j, ¬ NotId (.rs id lo n) j → NotId w j := fun j hj => by
  have e : id = j := by simpa [NotId] using hj
  exact e ▸ hw
theorem cw_reg_postK {O l b Q t h} (post : Slots → Heap → Prop) (h1 : ∀ K : Slots → Heap → Prop, (∀ t h, post t h → K t h) → cops O l K t h) (h2 : ∀ t h, post t h → cw O b Q t h) : cw O (.seq (.reg l) b) Q t h :=
  cw_reg_post post (h1 post fun _ _ h => h) h2
theorem cw_reg_postK1 {O l Q t h} (post : Slots → Heap → Prop) (h1 : ∀ K : Slots → Heap → Prop, (∀ t h, post t h → K t h) → cops O l K t h) (h2 : ∀ t h, post t h → Q .normal t h) : cw O (.reg l) Q t h :=
  cw_reg_post1 post (h1 post fun _ _ h => h) h2
/-- A slice of one's own with an element is not nil. -/
theorem own_get {α : Type} {f : α → List AV} {h : Heap} {v : AV} {sz : Nat} {l : List α} {i : Int} {x : α} (hv : OwnS h v sz (List.map f l)) (hx : get l i = some x) : ∃ id, v = .rs id 0 (List.length l) ∧ h.ob id = some (sz, List.map f l) ∧ id < h.nx := by
  rcases hv with ⟨_, hr⟩ | ⟨id, h1, h2, h3⟩
  · have : l = [] := by simpa using hr
    subst this; have := get_lt hx; have := get_nn hx; simp at *; omega
  · exact ⟨id, by simpa using h1, h2, h3⟩
theorem ln_eI (x : Int) : (eI x).length = 1 := rfl
end Go.Nw
namespace Go.Nw
theorem own_later {h h' : Heap} {v : AV} {sz : Nat} {rows : List (List AV)} (hv : OwnS h v sz rows) (hk : ∀ j, ¬ NotId v j → j < h.nx → h'.ob j = h.ob j) (hn : h.nx ≤ h'.nx) : OwnS h' v sz rows := by
  rcases hv with ⟨rfl, hr⟩ | ⟨id, rfl, ho, hlt⟩
  · exact .inl ⟨rfl, hr⟩
  · exact .inr ⟨id, rfl, by rw [hk id (by simp [NotId]) hlt]; exact ho, by omega⟩
end Go.Nw
namespace Go.Nw
theorem nsym {a b : Nat} (h : ¬ a = b) : ¬ b = a := fun e => h e.symm
theorem if_t {α : Type} {c : Bool} {a b : α} (h : c = true) : (if c then a else b) = a := if_pos h
theorem if_f {α : Type} {c : Bool} {a b : α} (h : c = false) : (if c then a else b) = b := if_neg (by simp [h])
attribute [go_sem] new_ob_lt new_ob_eq upd_ob_no upd_ob_is appH_ob appH_new List.length_map Bool.true_or Bool.or_true Bool.false_or Bool.or_false Bool.true_and Bool.and_true Bool.false_and Bool.and_false Bool.false_eq_true List.length_set
end Go.Nw
namespace Go.Nw
theorem own_ne {v : AV} {i j : Nat} (hj : ¬ NotId v j) (hi : NotId v i) : ¬ j = i := fun e => hj (e ▸ hi)
theorem di_sym {v u : AV} (h : ∀ j, ¬ NotId v j → NotId u j) : ∀ j, ¬ NotId u j → NotId v j := fun j hj => Classical.byContradiction fun hn => hj (h j hn)
end Go.Nw
namespace Go.Nw
theorem fz_fn {h : Heap} {f : String} {as bs cs ds : List AV} (ha : FzL h as bs) (hc : FzL h cs ds) : Fz h (.fn f as cs) (.fn f bs ds) := .fn f _ _ _ _ (fzl_get ha).1 (fzl_get ha).2 (fzl_get hc).1 (fzl_get hc).2
end Go.Nw
namespace Go.Nw
/- The least and the greatest. -/
def mn (a b : Int) : Int := if b < a then b else a
def mx (a b : Int) : Int := if b > a then b else a
theorem mn_eq (a b : Int) : mn a b = min a b := by unfold mn; split <;> omega
theorem mx_eq (a b : Int) : mx a b = max a b := by unfold mx; split <;> omega
def imin (xs : List AV) [k : K1 AV] : Prop := ∃ r, foldO minI xs = some r ∧ k.k r
def imax (xs : List AV) [k : K1 AV] : Prop := ∃ r, foldO maxI xs = some r ∧ k.k r
section
variable {O : Orac} {d : Option Nat} {g : Nat} {b0 : Bool} {r : List XO} {K : Slots → Heap → Prop} {t : Slots} {h : Heap} {k : AV → Heap → Prop} {k1 : AV → Prop}
theorem ic_min {xs} : cops O (⟨d, none, .min xs⟩ :: r) K t h = @iop O (.min xs) t h ⟨fun v h' => cops O r K (putT t d v) h'⟩ := cops_cons rfl
theorem ig_min {xs} : cops O (⟨d, some (g, b0), .min xs⟩ :: r) K t h = @iguard (t g) b0 ⟨@iop O (.min xs) (upd t g (B b0)) h ⟨fun v h' => cops O r K (putT (upd t g (B b0)) d v) h'⟩⟩ ⟨cops O r K (putT (upd t g (B (!b0))) d U) h⟩ ⟨cops O r K (putT t d U) h⟩ := cops_guardU rfl
theorem ic_max {xs} : cops O (⟨d, none, .max xs⟩ :: r) K t h = @iop O (.max xs) t h ⟨fun v h' => cops O r K (putT t d v) h'⟩ := cops_cons rfl
theorem ig_max {xs} : cops O (⟨d, some (g, b0), .max xs⟩ :: r) K t h = @iguard (t g) b0 ⟨@iop O (.max xs) (upd t g (B b0)) h ⟨fun v h' => cops O r K (putT (upd t g (B b0)) d v) h'⟩⟩ ⟨cops O r K (putT (upd t g (B (!b0))) d U) h⟩ ⟨cops O r K (putT t d U) h⟩ := cops_guardU rfl
theorem io_min {xs} : @iop O (.min xs) t h ⟨k⟩ = @imin (xs.map (evT t)) ⟨fun v => k v h⟩ := by
  simp only [iop, op1, imin, eff, Option.map_eq_some_iff]
  apply propext; constructor
  · rintro ⟨r, h', ⟨x, h1, h2⟩, hk⟩; cases h2; exact ⟨_, h1, hk⟩
  · rintro ⟨r, h1, hk⟩; exact ⟨r, h, ⟨r, h1, rfl⟩, hk⟩
theorem io_max {xs} : @iop O (.max xs) t h ⟨k⟩ = @imax (xs.map (evT t)) ⟨fun v => k v h⟩ := by
  simp only [iop, op1, imax, eff, Option.map_eq_some_iff]
  apply propext; constructor
  · rintro ⟨r, h', ⟨x, h1, h2⟩, hk⟩; cases h2; exact ⟨_, h1, hk⟩
  · rintro ⟨r, h1, hk⟩; exact ⟨r, h, ⟨r, h1, rfl⟩, hk⟩
theorem imin2 {a b : Int} {kd kd'} : @imin [.v (.int kd a), .v (.int kd' b)] ⟨k1⟩ = k1 (.v (.int kd (mn a b))) := by
  simp [imin, foldO, minI, mn]
theorem imax2 {a b : Int} {kd kd'} : @imax [.v (.int kd a), .v (.int kd' b)] ⟨k1⟩ = k1 (.v (.int kd (mx a b))) := by
  simp [imax, foldO, maxI, mx]
theorem imin3 {a b c : Int} {kd kd' kd''} : @imin [.v (.int kd a), .v (.int kd' b), .v (.int kd'' c)] ⟨k1⟩ = k1 (.v (.int kd (mn (mn a b) c))) := by
  simp [imin, foldO, minI, mn]
  exact Iff.rfl
theorem imax3 {a b c : Int} {kd kd' kd''} : @imax [.v (.int kd a), .v (.int kd' b), .v (.int kd'' c)] ⟨k1⟩ = k1 (.v (.int kd (mx (mx a b) c))) := by
  simp [imax, foldO, maxI, mx]
/- Parts of structs by value. -/
theorem ic_fld {agg n o x} : cops O (⟨d, none, .fld agg n o x⟩ :: r) K t h = @iop O (.fld agg n o x) t h ⟨fun v h' => cops O r K (putT t d v) h'⟩ := cops_cons rfl
theorem ig_fld {agg n o x} : cops O (⟨d, some (g, b0), .fld agg n o x⟩ :: r) K t h = @iguard (t g) b0 ⟨@iop O (.fld agg n o x) (upd t g (B b0)) h ⟨fun v h' => cops O r K (putT (upd t g (B b0)) d v) h'⟩⟩ ⟨cops O r K (putT (upd t g (B (!b0))) d U) h⟩ ⟨cops O r K (putT t d U) h⟩ := cops_guardU rfl
def ifldV (agg : Bool) (n o : Nat) (x : AV) [k : K1 AV] : Prop := match x with | .agg cs => cellsK agg n cs o k.k | _ => False
theorem io_fld {agg n o x} : @iop O (.fld agg n o x) t h ⟨k⟩ = @ifldV agg n o (evT t x) ⟨fun v => k v h⟩ := by
  simp only [iop, op1, ifldV, eff]
  generalize evT t x = y
  cases y with
  | agg cs =>
    simp only [cellsK, getK]
    cases agg with
    | true =>
      simp only [if_true]
      apply propext; constructor
      · rintro ⟨r, h', he, hk⟩; split at he
        · rename_i ho; cases he; exact ⟨ho, hk⟩
        · cases he
      · rintro ⟨h1, h2⟩; exact ⟨_, _, by rw [if_pos h1], h2⟩
    | false =>
      simp only [Bool.false_eq_true, if_false, Option.map_eq_some_iff]
      apply propext; constructor
      · rintro ⟨r, h', ⟨x, h1, h2⟩, hk⟩; cases h2; exact ⟨_, h1, hk⟩
      · rintro ⟨v, h1, h2⟩; exact ⟨v, h, ⟨v, h1, rfl⟩, h2⟩
  | _ => simp
theorem ifldV_agg {agg n o cs} : @ifldV agg n o (.agg cs) ⟨k1⟩ = @icells agg n cs o ⟨k1⟩ := rfl
end
/- Deep ghost steps. -/
def vidb (v : AV) (j : Nat) : Bool := match v with | .rs id _ _ => id == j | .rp id _ _ => id == j | _ => false
theorem but_ob {h : Heap} {F : Nat → Bool} {j : Nat} (hj : F j = false) : (h.but F).ob j = h.ob j := by simp [Heap.but, hj]
theorem but_nx {h : Heap} {F : Nat → Bool} : (h.but F).nx = h.nx := by simp [Heap.but]
theorem only_ob {h : Heap} {F : Nat → Bool} {j : Nat} (hj : F j = true) : (h.only F).ob j = h.ob j := by simp [Heap.only, hj]
theorem own_only {h : Heap} {F : Nat → Bool} {v : AV} {sz : Nat} {rows : List (List AV)} (hv : OwnS h v sz rows) (hF : ∀ j, ¬ NotId v j → F j = true) : OwnS (h.only F) v sz rows := by
  rcases hv with ⟨rfl, hr⟩ | ⟨id, rfl, ho, hlt⟩
  · exact .inl ⟨rfl, hr⟩
  · exact .inr ⟨id, rfl, by rw [only_ob (hF id (by simp [NotId]))]; exact ho, hlt⟩
theorem cw_ghost_deep {O : Orac} {b : XCode} {Q : XExit → Slots → Heap → Prop} {t : Slots} {h : Heap} {s : Nat} {v y : AV} (F : Nat → Bool) (hs : t s = v) (hz : Fz (h.only F) v y) (hf : Frz y)
    (hw : cw O b Q (upd t s y) (h.but F)) : cw O (.seq .ghost b) Q t h := by
  subst hs
  exact cw_ghost (ghost_but (.inr ⟨hz, hf⟩)) hw
theorem cw_ghost_skip {O : Orac} {Q : XExit → Slots → Heap → Prop} {t : Slots} {h : Heap} (hw : cw O (.seq .ghost .skip) Q t h) : cw O .ghost Q t h := hw
/- Literals whose rows lead on. -/
inductive FzR (h : Heap) : List (List AV) → List (List AV) → Prop
  | nil : FzR h [] []
  | cons {x y : List AV} {xs ys : List (List AV)} (a : FzL h x y) (b : FzR h xs ys) : FzR h (x :: xs) (y :: ys)
theorem fzr_get {h : Heap} {xs ys : List (List AV)} (hz : FzR h xs ys) : xs.length = ys.length ∧ ∀ (i j : Nat) c d, at2 xs i j = some c → at2 ys i j = some d → Fz h c d := by
  induction hz with
  | nil => exact ⟨rfl, fun i j c d hc => by simp [at2] at hc⟩
  | cons a _ ih =>
    refine ⟨by simp [ih.1], fun i j c d hc hd => ?_⟩
    cases i with
    | zero => simp [at2] at hc hd; exact (fzl_get a).2 j c d hc hd
    | succ i => exact ih.2 i j c d (by simpa [at2] using hc) (by simpa [at2] using hd)
theorem fz_lit {h : Heap} {id n sz : Nat} {rows rows' : List (List AV)} (ho : h.ob id = some (sz, rows)) (hn : n = rows.length) (hz : FzR h rows rows') (hl : ∀ d ∈ rows', d.length = sz) : Fz h (.rs id 0 n) (.fs sz rows') := by
  subst hn
  refine .rs id 0 _ sz _ _ ho (by simp) (fzr_get hz).1.symm hl (fun i j c d h1 h2 => ?_)
  rw [Nat.zero_add] at h1
  exact (fzr_get hz).2 i j c d h1 h2
attribute [go_sem ↓] ic_min ig_min ic_max ig_max io_min io_max ic_fld ig_fld io_fld imin2 imax2 imin3 imax3 ifldV_agg
attribute [go_sem] imin2 imax2 imin3 imax3 ifldV_agg but_nx but_ob
end Go.Nw
namespace Go.Nw
theorem vidb_is {v : AV} {j : Nat} (hj : ¬ NotId v j) : vidb v j = true := by
  unfold NotId at hj; unfold vidb
  split at hj
  · simpa using hj
  · simp at hj
end Go.Nw

namespace Go.Nw
/- A part of a list that is only read. -/
def sub {α : Type} (l : List α) (a b : Int) : Option (List α) := if 0 ≤ a ∧ a ≤ b ∧ b ≤ l.length then some ((l.take b.toNat).drop a.toNat) else none
theorem sub_get {α : Type} {l r : List α} {a b : Int} (h : sub l a b = some r) : 0 ≤ a ∧ a ≤ b ∧ b ≤ l.length ∧ r = (l.take b.toNat).drop a.toNat := by
  unfold sub at h; split at h
  · rename_i hc; cases h; exact ⟨hc.1, hc.2.1, hc.2.2, rfl⟩
  · cases h
theorem sub_ok {α : Type} {l : List α} {a b : Int} (h0 : 0 ≤ a) (h1 : a ≤ b) (h2 : b ≤ l.length) : sub l a b = some ((l.take b.toNat).drop a.toNat) := by
  unfold sub; rw [if_pos ⟨h0, h1, h2⟩]
def islc (n : Nat) (x : AV) (lo hi : Option AV) (h : Heap) [k : K2] : Prop := ∃ (r' : AV) (h' : Heap), ((sliceLen x).bind fun len =>
    (boundOf 0 lo).bind fun l =>
    (highOf len hi).bind fun r =>
    if l ≤ r then
      match x with
      | .fs sz es => if sz = n then some (.fs sz ((es.take r).drop l), h) else none
      | .rs id lo' _ => (h.ob id).bind fun o => if (l = 0 ∨ l < r) ∧ o.1 = n then some (.rs id (lo' + l) (r - l), h) else none
      | _ => none
    else none) = some (r', h') ∧ k.k r' h'
section
variable {O : Orac} {d : Option Nat} {g : Nat} {b0 : Bool} {r : List XO} {K : Slots → Heap → Prop} {t : Slots} {h : Heap} {k : AV → Heap → Prop}
theorem ic_slc {n x lo hi} : cops O (⟨d, none, .slc n x lo hi⟩ :: r) K t h = @iop O (.slc n x lo hi) t h ⟨fun v h' => cops O r K (putT t d v) h'⟩ := cops_cons rfl
theorem ig_slc {n x lo hi} : cops O (⟨d, some (g, b0), .slc n x lo hi⟩ :: r) K t h = @iguard (t g) b0 ⟨@iop O (.slc n x lo hi) (upd t g (B b0)) h ⟨fun v h' => cops O r K (putT (upd t g (B b0)) d v) h'⟩⟩ ⟨cops O r K (putT (upd t g (B (!b0))) d U) h⟩ ⟨cops O r K (putT t d U) h⟩ := cops_guardU rfl
theorem io_slc {n x lo hi} : @iop O (.slc n x lo hi) t h ⟨k⟩ = @islc n (evT t x) (lo.map (evT t)) (hi.map (evT t)) h ⟨k⟩ := rfl
theorem islc_fs {α : Type} {f : α → List AV} {n : Nat} {l m : List α} {lo hi : Option Int} (hs : sub l (lo.getD 0) (hi.getD l.length) = some m) (hk : k (.fs n (List.map f m)) h) : @islc n (.fs n (List.map f l)) (lo.map fun z => I z) (hi.map fun z => I z) h ⟨k⟩ := by
  obtain ⟨h0, h1, h2, rfl⟩ := sub_get hs
  refine ⟨_, _, ?_, hk⟩
  have hb : boundOf 0 (lo.map fun z => I z) = some (lo.getD 0).toNat := by
    cases lo with
    | none => rfl
    | some y => have h0' : 0 ≤ y := h0; show (if 0 ≤ y then some y.toNat else none) = some y.toNat; rw [if_pos h0']
  have hh : highOf (List.map f l).length (hi.map fun z => I z) = some (hi.getD l.length).toNat := by
    rw [List.length_map]
    cases hi with
    | none => show some l.length = some (Int.toNat l.length); simp
    | some z =>
      have h1' : 0 ≤ z := by have := h0; have := h1; simp only [Option.getD_some] at *; omega
      have h2' : z ≤ l.length := h2
      show (if 0 ≤ z ∧ z.toNat ≤ l.length then some z.toNat else none) = some z.toNat
      rw [if_pos ⟨h1', by omega⟩]
  simp only [sliceLen, Option.bind_some, hb, hh]
  rw [if_pos (by omega), if_pos trivial, List.map_drop, List.map_take]
end
attribute [go_sem ↓] ic_slc ig_slc io_slc
attribute [go_sem] Option.map_none
end Go.Nw
namespace Go.Nw
theorem vidb_own {h : Heap} {v : AV} {sz : Nat} {rows : List (List AV)} {j : Nat} (hv : OwnS h v sz rows) (hj : NotId v j) : vidb v j = false := by
  rcases hv with ⟨rfl, _⟩ | ⟨id, rfl, _, _⟩
  · rfl
  · simpa [vidb, NotId] using hj
end Go.Nw
namespace Go.Nw
/- Bits, shifts, quotients. -/
def bandK (k : IntKind) (a b : Int) : Int := k.wrap (BitVec.ofInt k.bits a &&& BitVec.ofInt k.bits b).toNat
def borK (k : IntKind) (a b : Int) : Int := k.wrap (BitVec.ofInt k.bits a ||| BitVec.ofInt k.bits b).toNat
def bxorK (k : IntKind) (a b : Int) : Int := k.wrap (BitVec.ofInt k.bits a ^^^ BitVec.ofInt k.bits b).toNat
def bclrK (k : IntKind) (a b : Int) : Int := k.wrap (BitVec.ofInt k.bits a &&& ~~~(BitVec.ofInt k.bits b)).toNat
def bnotK (k : IntKind) (a : Int) : Int := k.wrap (BitVec.ofInt k.bits (if k.signed then -1 else k.max) ^^^ BitVec.ofInt k.bits a).toNat
def shlK (k : IntKind) (a b : Int) : Int := k.wrap (a * 2 ^ (Nat.min b.toNat k.bits))
def shrK (k : IntKind) (a b : Int) : Int := a.fdiv (2 ^ (Nat.min b.toNat k.bits))
def shl (k : IntKind) (a b : Int) : Option Int := if b < 0 then none else some (shlK k a b)
def shr (k : IntKind) (a b : Int) : Option Int := if b < 0 then none else some (shrK k a b)
def quo (k : IntKind) (a b : Int) : Option Int := if b = 0 then none else some (k.wrap (a.tdiv b))
def rem (a b : Int) : Option Int := if b = 0 then none else some (a.tmod b)
section
variable {k : AV → Prop} {e : EqK} {kd kd' : IntKind} {a b : Int}
theorem ibin_and : @ibin .and e (.v (.int kd a)) (.v (.int kd b)) ⟨k⟩ = k (.v (.int kd (bandK kd a b))) := binK_i (by simp [intop, binI, bandK])
theorem ibin_or : @ibin .or e (.v (.int kd a)) (.v (.int kd b)) ⟨k⟩ = k (.v (.int kd (borK kd a b))) := binK_i (by simp [intop, binI, borK])
theorem ibin_xor : @ibin .xor e (.v (.int kd a)) (.v (.int kd b)) ⟨k⟩ = k (.v (.int kd (bxorK kd a b))) := binK_i (by simp [intop, binI, bxorK])
theorem ibin_clr : @ibin .andNot e (.v (.int kd a)) (.v (.int kd b)) ⟨k⟩ = k (.v (.int kd (bclrK kd a b))) := binK_i (by simp [intop, binI, bclrK])
theorem ibin_rem {r : Int} (h : rem a b = some r) : @ibin .rem e (.v (.int kd a)) (.v (.int kd b)) ⟨k⟩ = k (.v (.int kd r)) := by
  unfold rem at h; split at h
  · cases h
  · rename_i hb; cases h
    exact binK_i (by simp [intop, binI, hb])
theorem iun_xor : @iun .xor (.v (.int kd a)) ⟨k⟩ = k (.v (.int kd (bnotK kd a))) := by
  show unK _ _ _ = _
  simp [unK, unop, bnotK]
end
def icvt (kd : IntKind) (x : AV) [k : K1 AV] : Prop := match x with | .v (.int _ n) => k.k (.v (.int kd (kd.wrap n))) | _ => False
section
variable {O : Orac} {d : Option Nat} {g : Nat} {b0 : Bool} {r : List XO} {K : Slots → Heap → Prop} {t : Slots} {h : Heap} {k : AV → Heap → Prop} {k1 : AV → Prop}
theorem ic_cvt {kd x} : cops O (⟨d, none, .cvtI kd x⟩ :: r) K t h = @iop O (.cvtI kd x) t h ⟨fun v h' => cops O r K (putT t d v) h'⟩ := cops_cons rfl
theorem ig_cvt {kd x} : cops O (⟨d, some (g, b0), .cvtI kd x⟩ :: r) K t h = @iguard (t g) b0 ⟨@iop O (.cvtI kd x) (upd t g (B b0)) h ⟨fun v h' => cops O r K (putT (upd t g (B b0)) d v) h'⟩⟩ ⟨cops O r K (putT (upd t g (B (!b0))) d U) h⟩ ⟨cops O r K (putT t d U) h⟩ := cops_guardU rfl
theorem io_cvt {kd x} : @iop O (.cvtI kd x) t h ⟨k⟩ = @icvt kd (evT t x) ⟨fun v => k v h⟩ := by
  simp only [iop, op1, icvt, eff]
  generalize evT t x = y
  cases y with
  | v z =>
    cases z with
    | int k' n => exact ex1
    | _ => exact ex0
  | _ => exact ex0
theorem icvt_i {kd kd' : IntKind} {n : Int} : @icvt kd (.v (.int kd' n)) ⟨k1⟩ = k1 (.v (.int kd (kd.wrap n))) := rfl
end
attribute [go_sem ↓] ic_cvt ig_cvt io_cvt icvt_i ibin_and ibin_or ibin_xor ibin_clr iun_xor
attribute [go_sem] icvt_i ibin_and ibin_or ibin_xor ibin_clr iun_xor
end Go.Nw

namespace Go.Nw
/- Structs compared. -/
theorem ibin_flat2 {k : AV → Prop} {a b c d : Int} : @ibin .eql (.flat [.i, .i]) (.agg [I a, I b]) (.agg [I c, I d]) ⟨k⟩ = k (B (decide (a = c) && decide (b = d))) := by
  show binK _ _ _ _ _ = _
  by_cases h1 : a = c <;> by_cases h2 : b = d <;> simp [binK, binop, eqop, flatEq, h1, h2]
theorem ibin_nflat2 {k : AV → Prop} {a b c d : Int} : @ibin .neq (.flat [.i, .i]) (.agg [I a, I b]) (.agg [I c, I d]) ⟨k⟩ = k (B (!(decide (a = c) && decide (b = d)))) := by
  show binK _ _ _ _ _ = _
  by_cases h1 : a = c <;> by_cases h2 : b = d <;> simp [binK, binop, eqop, flatEq, h1, h2]
theorem ibin_flat3 {k : AV → Prop} {a b c d x y : Int} : @ibin .eql (.flat [.i, .i, .i]) (.agg [I a, I b, I x]) (.agg [I c, I d, I y]) ⟨k⟩ = k (B (decide (a = c) && decide (b = d) && decide (x = y))) := by
  show binK _ _ _ _ _ = _
  by_cases h1 : a = c <;> by_cases h2 : b = d <;> by_cases h3 : x = y <;> simp [binK, binop, eqop, flatEq, h1, h2, h3]
theorem ibin_nflat3 {k : AV → Prop} {a b c d x y : Int} : @ibin .neq (.flat [.i, .i, .i]) (.agg [I a, I b, I x]) (.agg [I c, I d, I y]) ⟨k⟩ = k (B (!(decide (a = c) && decide (b = d) && decide (x = y)))) := by
  show binK _ _ _ _ _ = _
  by_cases h1 : a = c <;> by_cases h2 : b = d <;> by_cases h3 : x = y <;> simp [binK, binop, eqop, flatEq, h1, h2, h3]
/- Slices held against nil. -/
theorem ibin_nil_nil {k : AV → Prop} : @ibin .eql .slice (.v (.slice none 0 0)) (.v (.slice none 0 0)) ⟨k⟩ = k (B true) := by
  show binK _ _ _ _ _ = _
  simp [binK, binop, eqop, isNilSl]
theorem ibin_nnil_nil {k : AV → Prop} : @ibin .neq .slice (.v (.slice none 0 0)) (.v (.slice none 0 0)) ⟨k⟩ = k (B false) := by
  show binK _ _ _ _ _ = _
  simp [binK, binop, eqop, isNilSl]
theorem ibin_nil_rs {k : AV → Prop} {a b c : Nat} : @ibin .eql .slice (.rs a b c) (.v (.slice none 0 0)) ⟨k⟩ = k (B false) := by
  show binK _ _ _ _ _ = _
  simp [binK, binop, eqop, isNilSl]
theorem ibin_nnil_rs {k : AV → Prop} {a b c : Nat} : @ibin .neq .slice (.rs a b c) (.v (.slice none 0 0)) ⟨k⟩ = k (B true) := by
  show binK _ _ _ _ _ = _
  simp [binK, binop, eqop, isNilSl]
attribute [go_sem ↓] ibin_flat2 ibin_nflat2 ibin_flat3 ibin_nflat3 ibin_nil_nil ibin_nnil_nil ibin_nil_rs ibin_nnil_rs
attribute [go_sem] ibin_flat2 ibin_nflat2 ibin_flat3 ibin_nflat3 ibin_nil_nil ibin_nnil_nil ibin_nil_rs ibin_nnil_rs
theorem icall_fn2 {O : Orac} {f : String} {as as' : List AV} {r : AV} {h : Heap} {k : AV → Heap → Prop} (hz : FzL h as as') (ha : ∀ a ∈ as, Frz a) (hf : Fn O f as' r) (hk : k r h) : @icall O f as h ⟨k⟩ :=
  ⟨r, h, ⟨as', r, [], [], hz, hf.o, .inl ha, .frz r hf.r, rfl, fun k sz es hh => by simp at hh, rfl⟩, hk⟩
theorem frzH_own {h0 h : Heap} {v : AV} {sz i : Nat} {rows : List (List AV)} (hv : OwnS h0 v sz rows) (hi : NotId v i) : (frzH h v).ob i = h.ob i := by
  rcases hv with ⟨rfl, _⟩ | ⟨id, rfl, _, _⟩
  · rfl
  · exact upd_ob_no fun e => hi e.symm
attribute [go_sem] beq_self_eq_true eq_self
/- Numbers of objects. -/
theorem nxa {a b : Nat} : (nxs a = nxs b) = (a = b) := by simp [nxs]
theorem nxb {a b : Nat} : (nxs a < nxs b) = (a < b) := by simp [nxs]
theorem nla1 {n : Nat} : (n < nxs n) = True := by simp only [nxs, eq_iff_iff, iff_true]; omega
theorem nlb1 {i n : Nat} (h : i < n) : (i < nxs n) = True := by simp only [nxs, eq_iff_iff, iff_true]; omega
theorem nec1 {n : Nat} : (n = nxs n) = False := by simp only [nxs, eq_iff_iff, iff_false]; omega
theorem ned1 {n : Nat} : (nxs n = n) = False := by simp only [nxs, eq_iff_iff, iff_false]; omega
theorem nee1 {i n : Nat} (h : i < n) : (i = nxs n) = False := by simp only [nxs, eq_iff_iff, iff_false]; omega
theorem nef1 {i n : Nat} (h : i < n) : (nxs n = i) = False := by simp only [nxs, eq_iff_iff, iff_false]; omega
theorem nla2 {n : Nat} : (n < nxs (nxs n)) = True := by simp only [nxs, eq_iff_iff, iff_true]; omega
theorem nlb2 {i n : Nat} (h : i < n) : (i < nxs (nxs n)) = True := by simp only [nxs, eq_iff_iff, iff_true]; omega
theorem nec2 {n : Nat} : (n = nxs (nxs n)) = False := by simp only [nxs, eq_iff_iff, iff_false]; omega
theorem ned2 {n : Nat} : (nxs (nxs n) = n) = False := by simp only [nxs, eq_iff_iff, iff_false]; omega
theorem nee2 {i n : Nat} (h : i < n) : (i = nxs (nxs n)) = False := by simp only [nxs, eq_iff_iff, iff_false]; omega
theorem nef2 {i n : Nat} (h : i < n) : (nxs (nxs n) = i) = False := by simp only [nxs, eq_iff_iff, iff_false]; omega
theorem nla3 {n : Nat} : (n < nxs (nxs (nxs n))) = True := by simp only [nxs, eq_iff_iff, iff_true]; omega
theorem nlb3 {i n : Nat} (h : i < n) : (i < nxs (nxs (nxs n))) = True := by simp only [nxs, eq_iff_iff, iff_true]; omega
theorem nec3 {n : Nat} : (n = nxs (nxs (nxs n))) = False := by simp only [nxs, eq_iff_iff, iff_false]; omega
theorem ned3 {n : Nat} : (nxs (nxs (nxs n)) = n) = False := by simp only [nxs, eq_iff_iff, iff_false]; omega
theorem nee3 {i n : Nat} (h : i < n) : (i = nxs (nxs (nxs n))) = False := by simp only [nxs, eq_iff_iff, iff_false]; omega
theorem nef3 {i n : Nat} (h : i < n) : (nxs (nxs (nxs n)) = i) = False := by simp only [nxs, eq_iff_iff, iff_false]; omega
theorem nla4 {n : Nat} : (n < nxs (nxs (nxs (nxs n)))) = True := by simp only [nxs, eq_iff_iff, iff_true]; omega
theorem nlb4 {i n : Nat} (h : i < n) : (i < nxs (nxs (nxs (nxs n)))) = True := by simp only [nxs, eq_iff_iff, iff_true]; omega
theorem nec4 {n : Nat} : (n = nxs (nxs (nxs (nxs n)))) = False := by simp only [nxs, eq_iff_iff, iff_false]; omega
theorem ned4 {n : Nat} : (nxs (nxs (nxs (nxs n))) = n) = False := by simp only [nxs, eq_iff_iff, iff_false]; omega
theorem nee4 {i n : Nat} (h : i < n) : (i = nxs (nxs (nxs (nxs n)))) = False := by simp only [nxs, eq_iff_iff, iff_false]; omega
theorem nef4 {i n : Nat} (h : i < n) : (nxs (nxs (nxs (nxs n))) = i) = False := by simp only [nxs, eq_iff_iff, iff_false]; omega
theorem nla5 {n : Nat} : (n < nxs (nxs (nxs (nxs (nxs n))))) = True := by simp only [nxs, eq_iff_iff, iff_true]; omega
theorem nlb5 {i n : Nat} (h : i < n) : (i < nxs (nxs (nxs (nxs (nxs n))))) = True := by simp only [nxs, eq_iff_iff, iff_true]; omega
theorem nec5 {n : Nat} : (n = nxs (nxs (nxs (nxs (nxs n))))) = False := by simp only [nxs, eq_iff_iff, iff_false]; omega
theorem ned5 {n : Nat} : (nxs (nxs (nxs (nxs (nxs n)))) = n) = False := by simp only [nxs, eq_iff_iff, iff_false]; omega
theorem nee5 {i n : Nat} (h : i < n) : (i = nxs (nxs (nxs (nxs (nxs n))))) = False := by simp only [nxs, eq_iff_iff, iff_false]; omega
theorem nef5 {i n : Nat} (h : i < n) : (nxs (nxs (nxs (nxs (nxs n)))) = i) = False := by simp only [nxs, eq_iff_iff, iff_false]; omega
theorem nla6 {n : Nat} : (n < nxs (nxs (nxs (nxs (nxs (nxs n)))))) = True := by simp only [nxs, eq_iff_iff, iff_true]; omega
theorem nlb6 {i n : Nat} (h : i < n) : (i < nxs (nxs (nxs (nxs (nxs (nxs n)))))) = True := by simp only [nxs, eq_iff_iff, iff_true]; omega
theorem nec6 {n : Nat} : (n = nxs (nxs (nxs (nxs (nxs (nxs n)))))) = False := by simp only [nxs, eq_iff_iff, iff_false]; omega
theorem ned6 {n : Nat} : (nxs (nxs (nxs (nxs (nxs (nxs n))))) = n) = False := by simp only [nxs, eq_iff_iff, iff_false]; omega
theorem nee6 {i n : Nat} (h : i < n) : (i = nxs (nxs (nxs (nxs (nxs (nxs n)))))) = False := by simp only [nxs, eq_iff_iff, iff_false]; omega
theorem nef6 {i n : Nat} (h : i < n) : (nxs (nxs (nxs (nxs (nxs (nxs n))))) = i) = False := by simp only [nxs, eq_iff_iff, iff_false]; omega
theorem nla7 {n : Nat} : (n < nxs (nxs (nxs (nxs (nxs (nxs (nxs n))))))) = True := by simp only [nxs, eq_iff_iff, iff_true]; omega
theorem nlb7 {i n : Nat} (h : i < n) : (i < nxs (nxs (nxs (nxs (nxs (nxs (nxs n))))))) = True := by simp only [nxs, eq_iff_iff, iff_true]; omega
theorem nec7 {n : Nat} : (n = nxs (nxs (nxs (nxs (nxs (nxs (nxs n))))))) = False := by simp only [nxs, eq_iff_iff, iff_false]; omega
theorem ned7 {n : Nat} : (nxs (nxs (nxs (nxs (nxs (nxs (nxs n)))))) = n) = False := by simp only [nxs, eq_iff_iff, iff_false]; omega
theorem nee7 {i n : Nat} (h : i < n) : (i = nxs (nxs (nxs (nxs (nxs (nxs (nxs n))))))) = False := by simp only [nxs, eq_iff_iff, iff_false]; omega
theorem nef7 {i n : Nat} (h : i < n) : (nxs (nxs (nxs (nxs (nxs (nxs (nxs n)))))) = i) = False := by simp only [nxs, eq_iff_iff, iff_false]; omega
theorem nla8 {n : Nat} : (n < nxs (nxs (nxs (nxs (nxs (nxs (nxs (nxs n)))))))) = True := by simp only [nxs, eq_iff_iff, iff_true]; omega
theorem nlb8 {i n : Nat} (h : i < n) : (i < nxs (nxs (nxs (nxs (nxs (nxs (nxs (nxs n)))))))) = True := by simp only [nxs, eq_iff_iff, iff_true]; omega
theorem nec8 {n : Nat} : (n = nxs (nxs (nxs (nxs (nxs (nxs (nxs (nxs n)))))))) = False := by simp only [nxs, eq_iff_iff, iff_false]; omega
theorem ned8 {n : Nat} : (nxs (nxs (nxs (nxs (nxs (nxs (nxs (nxs n))))))) = n) = False := by simp only [nxs, eq_iff_iff, iff_false]; omega
theorem nee8 {i n : Nat} (h : i < n) : (i = nxs (nxs (nxs (nxs (nxs (nxs (nxs (nxs n)))))))) = False := by simp only [nxs, eq_iff_iff, iff_false]; omega
theorem nef8 {i n : Nat} (h : i < n) : (nxs (nxs (nxs (nxs (nxs (nxs (nxs (nxs n))))))) = i) = False := by simp only [nxs, eq_iff_iff, iff_false]; omega
theorem nla9 {n : Nat} : (n < nxs (nxs (nxs (nxs (nxs (nxs (nxs (nxs (nxs n))))))))) = True := by simp only [nxs, eq_iff_iff, iff_true]; omega
theorem nlb9 {i n : Nat} (h : i < n) : (i < nxs (nxs (nxs (nxs (nxs (nxs (nxs (nxs (nxs n))))))))) = True := by simp only [nxs, eq_iff_iff, iff_true]; omega
theorem nec9 {n : Nat} : (n = nxs (nxs (nxs (nxs (nxs (nxs (nxs (nxs (nxs n))))))))) = False := by simp only [nxs, eq_iff_iff, iff_false]; omega
theorem ned9 {n : Nat} : (nxs (nxs (nxs (nxs (nxs (nxs (nxs (nxs (nxs n)))))))) = n) = False := by simp only [nxs, eq_iff_iff, iff_false]; omega
theorem nee9 {i n : Nat} (h : i < n) : (i = nxs (nxs (nxs (nxs (nxs (nxs (nxs (nxs (nxs n))))))))) = False := by simp only [nxs, eq_iff_iff, iff_false]; omega
theorem nef9 {i n : Nat} (h : i < n) : (nxs (nxs (nxs (nxs (nxs (nxs (nxs (nxs (nxs n)))))))) = i) = False := by simp only [nxs, eq_iff_iff, iff_false]; omega
theorem nla10 {n : Nat} : (n < nxs (nxs (nxs (nxs (nxs (nxs (nxs (nxs (nxs (nxs n)))))))))) = True := by simp only [nxs, eq_iff_iff, iff_true]; omega
theorem nlb10 {i n : Nat} (h : i < n) : (i < nxs (nxs (nxs (nxs (nxs (nxs (nxs (nxs (nxs (nxs n)))))))))) = True := by simp only [nxs, eq_iff_iff, iff_true]; omega
theorem nec10 {n : Nat} : (n = nxs (nxs (nxs (nxs (nxs (nxs (nxs (nxs (nxs (nxs n)))))))))) = False := by simp only [nxs, eq_iff_iff, iff_false]; omega
theorem ned10 {n : Nat} : (nxs (nxs (nxs (nxs (nxs (nxs (nxs (nxs (nxs (nxs n))))))))) = n) = False := by simp only [nxs, eq_iff_iff, iff_false]; omega
theorem nee10 {i n : Nat} (h : i < n) : (i = nxs (nxs (nxs (nxs (nxs (nxs (nxs (nxs (nxs (nxs n)))))))))) = False := by simp only [nxs, eq_iff_iff, iff_false]; omega
theorem nef10 {i n : Nat} (h : i < n) : (nxs (nxs (nxs (nxs (nxs (nxs (nxs (nxs (nxs (nxs n))))))))) = i) = False := by simp only [nxs, eq_iff_iff, iff_false]; omega
theorem nla11 {n : Nat} : (n < nxs (nxs (nxs (nxs (nxs (nxs (nxs (nxs (nxs (nxs (nxs n))))))))))) = True := by simp only [nxs, eq_iff_iff, iff_true]; omega
theorem nlb11 {i n : Nat} (h : i < n) : (i < nxs (nxs (nxs (nxs (nxs (nxs (nxs (nxs (nxs (nxs (nxs n))))))))))) = True := by simp only [nxs, eq_iff_iff, iff_true]; omega
theorem nec11 {n : Nat} : (n = nxs (nxs (nxs (nxs (nxs (nxs (nxs (nxs (nxs (nxs (nxs n))))))))))) = False := by simp only [nxs, eq_iff_iff, iff_false]; omega
theorem ned11 {n : Nat} : (nxs (nxs (nxs (nxs (nxs (nxs (nxs (nxs (nxs (nxs (nxs n)))))))))) = n) = False := by simp only [nxs, eq_iff_iff, iff_false]; omega
theorem nee11 {i n : Nat} (h : i < n) : (i = nxs (nxs (nxs (nxs (nxs (nxs (nxs (nxs (nxs (nxs (nxs n))))))))))) = False := by simp only [nxs, eq_iff_iff, iff_false]; omega
theorem nef11 {i n : Nat} (h : i < n) : (nxs (nxs (nxs (nxs (nxs (nxs (nxs (nxs (nxs (nxs (nxs n)))))))))) = i) = False := by simp only [nxs, eq_iff_iff, iff_false]; omega
theorem nla12 {n : Nat} : (n < nxs (nxs (nxs (nxs (nxs (nxs (nxs (nxs (nxs (nxs (nxs (nxs n)))))))))))) = True := by simp only [nxs, eq_iff_iff, iff_true]; omega
theorem nlb12 {i n : Nat} (h : i < n) : (i < nxs (nxs (nxs (nxs (nxs (nxs (nxs (nxs (nxs (nxs (nxs (nxs n)))))))))))) = True := by simp only [nxs, eq_iff_iff, iff_true]; omega
theorem nec12 {n : Nat} : (n = nxs (nxs (nxs (nxs (nxs (nxs (nxs (nxs (nxs (nxs (nxs (nxs n)))))))))))) = False := by simp only [nxs, eq_iff_iff, iff_false]; omega
theorem ned12 {n : Nat} : (nxs (nxs (nxs (nxs (nxs (nxs (nxs (nxs (nxs (nxs (nxs (nxs n))))))))))) = n) = False := by simp only [nxs, eq_iff_iff, iff_false]; omega
theorem nee12 {i n : Nat} (h : i < n) : (i = nxs (nxs (nxs (nxs (nxs (nxs (nxs (nxs (nxs (nxs (nxs (nxs n)))))))))))) = False := by simp only [nxs, eq_iff_iff, iff_false]; omega
theorem nef12 {i n : Nat} (h : i < n) : (nxs (nxs (nxs (nxs (nxs (nxs (nxs (nxs (nxs (nxs (nxs (nxs n))))))))))) = i) = False := by simp only [nxs, eq_iff_iff, iff_false]; omega
theorem nla13 {n : Nat} : (n < nxs (nxs (nxs (nxs (nxs (nxs (nxs (nxs (nxs (nxs (nxs (nxs (nxs n))))))))))))) = True := by simp only [nxs, eq_iff_iff, iff_true]; omega
theorem nlb13 {i n : Nat} (h : i < n) : (i < nxs (nxs (nxs (nxs (nxs (nxs (nxs (nxs (nxs (nxs (nxs (nxs (nxs n))))))))))))) = True := by simp only [nxs, eq_iff_iff, iff_true]; omega
theorem nec13 {n : Nat} : (n = nxs (nxs (nxs (nxs (nxs (nxs (nxs (nxs (nxs (nxs (nxs (nxs (nxs n))))))))))))) = False := by simp only [nxs, eq_iff_iff, iff_false]; omega
theorem ned13 {n : Nat} : (nxs (nxs (nxs (nxs (nxs (nxs (nxs (nxs (nxs (nxs (nxs (nxs (nxs n)))))))))))) = n) = False := by simp only [nxs, eq_iff_iff, iff_false]; omega
theorem nee13 {i n : Nat} (h : i < n) : (i = nxs (nxs (nxs (nxs (nxs (nxs (nxs (nxs (nxs (nxs (nxs (nxs (nxs n))))))))))))) = False := by simp only [nxs, eq_iff_iff, iff_false]; omega
theorem nef13 {i n : Nat} (h : i < n) : (nxs (nxs (nxs (nxs (nxs (nxs (nxs (nxs (nxs (nxs (nxs (nxs (nxs n)))))))))))) = i) = False := by simp only [nxs, eq_iff_iff, iff_false]; omega
theorem nla14 {n : Nat} : (n < nxs (nxs (nxs (nxs (nxs (nxs (nxs (nxs (nxs (nxs (nxs (nxs (nxs (nxs n)))))))))))))) = True := by simp only [nxs, eq_iff_iff, iff_true]; omega
theorem nlb14 {i n : Nat} (h : i < n) : (i < nxs (nxs (nxs (nxs (nxs (nxs (nxs (nxs (nxs (nxs (nxs (nxs (nxs (nxs n)))))))))))))) = True := by simp only [nxs, eq_iff_iff, iff_true]; omega
theorem nec14 {n : Nat} : (n = nxs (nxs (nxs (nxs (nxs (nxs (nxs (nxs (nxs (nxs (nxs (nxs (nxs (nxs n)))))))))))))) = False := by simp only [nxs, eq_iff_iff, iff_false]; omega
theorem ned14 {n : Nat} : (nxs (nxs (nxs (nxs (nxs (nxs (nxs (nxs (nxs (nxs (nxs (nxs (nxs (nxs n))))))))))))) = n) = False := by simp only [nxs, eq_iff_iff, iff_false]; omega
theorem nee14 {i n : Nat} (h : i < n) : (i = nxs (nxs (nxs (nxs (nxs (nxs (nxs (nxs (nxs (nxs (nxs (nxs (nxs (nxs n)))))))))))))) = False := by simp only [nxs, eq_iff_iff, iff_false]; omega
theorem nef14 {i n : Nat} (h : i < n) : (nxs (nxs (nxs (nxs (nxs (nxs (nxs (nxs (nxs (nxs (nxs (nxs (nxs (nxs n))))))))))))) = i) = False := by simp only [nxs, eq_iff_iff, iff_false]; omega
theorem nla15 {n : Nat} : (n < nxs (nxs (nxs (nxs (nxs (nxs (nxs (nxs (nxs (nxs (nxs (nxs (nxs (nxs (nxs n))))))))))))))) = True := by simp only [nxs, eq_iff_iff, iff_true]; omega
theorem nlb15 {i n : Nat} (h : i < n) : (i < nxs (nxs (nxs (nxs (nxs (nxs (nxs (nxs (nxs (nxs (nxs (nxs (nxs (nxs (nxs n))))))))))))))) = True := by simp only [nxs, eq_iff_iff, iff_true]; omega
theorem nec15 {n : Nat} : (n = nxs (nxs (nxs (nxs (nxs (nxs (nxs (nxs (nxs (nxs (nxs (nxs (nxs (nxs (nxs n))))))))))))))) = False := by simp only [nxs, eq_iff_iff, iff_false]; omega
theorem ned15 {n : Nat} : (nxs (nxs (nxs (nxs (nxs (nxs (nxs (nxs (nxs (nxs (nxs (nxs (nxs (nxs (nxs n)))))))))))))) = n) = False := by simp only [nxs, eq_iff_iff, iff_false]; omega
theorem nee15 {i n : Nat} (h : i < n) : (i = nxs (nxs (nxs (nxs (nxs (nxs (nxs (nxs (nxs (nxs (nxs (nxs (nxs (nxs (nxs n))))))))))))))) = False := by simp only [nxs, eq_iff_iff, iff_false]; omega
theorem nef15 {i n : Nat} (h : i < n) : (nxs (nxs (nxs (nxs (nxs (nxs (nxs (nxs (nxs (nxs (nxs (nxs (nxs (nxs (nxs n)))))))))))))) = i) = False := by simp only [nxs, eq_iff_iff, iff_false]; omega
theorem nla16 {n : Nat} : (n < nxs (nxs (nxs (nxs (nxs (nxs (nxs (nxs (nxs (nxs (nxs (nxs (nxs (nxs (nxs (nxs n)))))))))))))))) = True := by simp only [nxs, eq_iff_iff, iff_true]; omega
theorem nlb16 {i n : Nat} (h : i < n) : (i < nxs (nxs (nxs (nxs (nxs (nxs (nxs (nxs (nxs (nxs (nxs (nxs (nxs (nxs (nxs (nxs n)))))))))))))))) = True := by simp only [nxs, eq_iff_iff, iff_true]; omega
theorem nec16 {n : Nat} : (n = nxs (nxs (nxs (nxs (nxs (nxs (nxs (nxs (nxs (nxs (nxs (nxs (nxs (nxs (nxs (nxs n)))))))))))))))) = False := by simp only [nxs, eq_iff_iff, iff_false]; omega
theorem ned16 {n : Nat} : (nxs (nxs (nxs (nxs (nxs (nxs (nxs (nxs (nxs (nxs (nxs (nxs (nxs (nxs (nxs (nxs n))))))))))))))) = n) = False := by simp only [nxs, eq_iff_iff, iff_false]; omega
theorem nee16 {i n : Nat} (h : i < n) : (i = nxs (nxs (nxs (nxs (nxs (nxs (nxs (nxs (nxs (nxs (nxs (nxs (nxs (nxs (nxs (nxs n)))))))))))))))) = False := by simp only [nxs, eq_iff_iff, iff_false]; omega
theorem nef16 {i n : Nat} (h : i < n) : (nxs (nxs (nxs (nxs (nxs (nxs (nxs (nxs (nxs (nxs (nxs (nxs (nxs (nxs (nxs (nxs n))))))))))))))) = i) = False := by simp only [nxs, eq_iff_iff, iff_false]; omega
theorem nee0 {i : Nat} {h : Heap} (hl : i < h.nx) : (i = h.nx) = False := by simp only [eq_iff_iff, iff_false]; omega
theorem nef0 {i : Nat} {h : Heap} (hl : i < h.nx) : (h.nx = i) = False := by simp only [eq_iff_iff, iff_false]; omega
attribute [go_sem] nxa nxb nla1 nlb1 nec1 ned1 nee1 nef1 nla2 nlb2 nec2 ned2 nee2 nef2 nla3 nlb3 nec3 ned3 nee3 nef3 nla4 nlb4 nec4 ned4 nee4 nef4 nla5 nlb5 nec5 ned5 nee5 nef5 nla6 nlb6 nec6 ned6 nee6 nef6 nla7 nlb7 nec7 ned7 nee7 nef7 nla8 nlb8 nec8 ned8 nee8 nef8 nla9 nlb9 nec9 ned9 nee9 nef9 nla10 nlb10 nec10 ned10 nee10 nef10 nla11 nlb11 nec11 ned11 nee11 nef11 nla12 nlb12 nec12 ned12 nee12 nef12 nla13 nlb13 nec13 ned13 nee13 nef13 nla14 nlb14 nec14 ned14 nee14 nef14 nla15 nlb15 nec15 ned15 nee15 nef15 nla16 nlb16 nec16 ned16 nee16 nef16 nee0 nef0
end Go.Nw
