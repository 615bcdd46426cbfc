/- What the printed models are made of: checked reads, loops; and their rules. -/
import Derived.Test.YteoedeeljnboeaaNwDone
set_option linter.all false
set_option linter.unusedVariables false
set_option linter.unusedSimpArgs false
set_option linter.unusedSectionVars false
namespace Go.Nw

/-- A round of a loop: on with a state, or out of it. -/
inductive Out (σ β : Type) where
  | nx (s : σ)
  | br (b : β)

def loopN {σ β : Type} (f : σ → Option (Out σ β)) : Nat → σ → Option β
  | 0, _ => none
  | n + 1, s => match f s with
    | none => none
    | some (.br b) => some b
    | some (.nx s') => loopN f n s'

theorem loopN_mono {σ β : Type} {f : σ → Option (Out σ β)} : ∀ {n m : Nat} {s : σ} {b : β}, loopN f n s = some b → n ≤ m → loopN f m s = some b
  | 0, _, _, _, h, _ => by simp [loopN] at h
  | n + 1, 0, _, _, _, h => by omega
  | n + 1, m + 1, s, b, h, hl => by
    simp only [loopN] at h ⊢
    split at h
    · exact h
    · exact h
    · exact loopN_mono h (by omega)

open Classical in
/-- A loop. -/
noncomputable def loopM {σ β : Type} (f : σ → Option (Out σ β)) (s : σ) : Option β :=
  if h : ∃ b n, loopN f n s = some b then some (Classical.choose h) else none

theorem loopM_of {σ β : Type} {f : σ → Option (Out σ β)} {s : σ} {b : β} {n : Nat} (h : loopN f n s = some b) : loopM f s = some b := by
  unfold loopM
  have hx : ∃ b n, loopN f n s = some b := ⟨b, n, h⟩
  rw [dif_pos hx]
  obtain ⟨m, hm⟩ := Classical.choose_spec hx
  have h1 := loopN_mono h (Nat.le_max_left n m)
  have h2 := loopN_mono hm (Nat.le_max_right n m)
  rw [h1] at h2
  exact h2.symm

theorem loopM_get {σ β : Type} {f : σ → Option (Out σ β)} {s : σ} {b : β} (h : loopM f s = some b) : ∃ n, loopN f n s = some b := by
  unfold loopM at h
  split at h
  · rename_i hx
    obtain ⟨n, hn⟩ := Classical.choose_spec hx
    cases h
    exact ⟨n, hn⟩
  · cases h

theorem loopM_nx {σ β : Type} {f : σ → Option (Out σ β)} {s s' : σ} (h : f s = some (.nx s')) : loopM f s = loopM f s' := by
  cases hb : loopM f s' with
  | some b =>
    obtain ⟨n, hn⟩ := loopM_get hb
    exact loopM_of (n := n + 1) (by simp only [loopN, h]; exact hn)
  | none =>
    cases hc : loopM f s with
    | none => rfl
    | some b =>
      obtain ⟨n, hn⟩ := loopM_get hc
      cases n with
      | zero => simp [loopN] at hn
      | succ n =>
        simp only [loopN, h] at hn
        rw [loopM_of hn] at hb
        cases hb
theorem loopM_br {σ β : Type} {f : σ → Option (Out σ β)} {s : σ} {b : β} (h : f s = some (.br b)) : loopM f s = some b :=
  loopM_of (n := 1) (by simp only [loopN, h])

/-- A loop of the code that a loop of the model tells. -/
theorem cw_loopM {O : Orac} {a : XCode} {Q : XExit → Slots → Heap → Prop} {t : Slots} {h : Heap} {σ β : Type} {f : σ → Option (Out σ β)} {s0 : σ} {b : β}
    (hm : loopM f s0 = some b) (Rel : σ → Slots → Heap → Prop) (h0 : Rel s0 t h)
    (step : ∀ s o t h, Rel s t h → f s = some o → (∀ b', o = .br b' → b' = b) → cw O a (qseq (fun t' h' => ∃ s', o = .nx s' ∧ Rel s' t' h') Q) t h) : cw O (.loop a) Q t h := by
  obtain ⟨n, hn⟩ := loopM_get hm
  refine cw_loop (fun k t h => ∃ s, loopN f k s = some b ∧ Rel s t h) n ⟨s0, hn, h0⟩ ?_
  rintro k t h ⟨s, hs, hr⟩
  cases k with
  | zero => simp [loopN] at hs
  | succ k =>
    simp only [loopN] at hs
    cases ho : f s with
    | none => rw [ho] at hs; cases hs
    | some o =>
      rw [ho] at hs
      refine cw_mono ?_ (step s o t h hr ho ?_)
      · intro e t' h' hq
        cases e with
        | normal =>
          obtain ⟨s', rfl, hr'⟩ := hq
          exact ⟨k, by omega, s', hs, hr'⟩
        | exit id => exact hq
        | ret => exact hq
      · rintro b' rfl
        simp only [Option.some.injEq] at hs
        exact hs

theorem bind_get {α β : Type} {x : Option α} {f : α → Option β} {b : β} (h : x.bind f = some b) : ∃ a, x = some a ∧ f a = some b := Option.bind_eq_some_iff.1 h

/-- A checked read. -/
def get {α : Type} (l : List α) (i : Int) : Option α := if 0 ≤ i then l[i.toNat]? else none
theorem get_nn {α : Type} {l : List α} {i : Int} {x : α} (h : get l i = some x) : 0 ≤ i := by
  unfold get at h; split at h
  · assumption
  · cases h
theorem get_at {α : Type} {l : List α} {i : Int} {x : α} (h : get l i = some x) : l[i.toNat]? = some x := by
  unfold get at h; split at h
  · exact h
  · cases h
theorem get_lt {α : Type} {l : List α} {i : Int} {x : α} (h : get l i = some x) : i < l.length := by
  have h1 := get_at h
  have h2 := get_nn h
  have := (List.getElem?_eq_some_iff.1 h1).1
  omega
theorem ielem_get {α : Type} {l : List α} {i : Int} {x : α} {k : α → Prop} (h : get l i = some x) : @ielem α l i ⟨k⟩ = k x := by
  show elemK l i k = k x
  simp only [elemK, get_at h, Option.some.injEq]
  apply propext; constructor
  · rintro ⟨a, _, rfl, hk⟩; exact hk
  · exact fun hk => ⟨x, get_nn h, rfl, hk⟩

abbrev wr (n : Int) : Int := IntKind.i64.wrap n
theorem wr_id {n : Int} (h1 : -9223372036854775808 ≤ n) (h2 : n < 9223372036854775808) : wr n = n := wrap_id h1 h2

def eI (x : Int) : List AV := [I x]
def eB (x : Bool) : List AV := [B x]
attribute [go_sem] eI eB
end Go.Nw
namespace Go.Nw
theorem cw_start {O : Orac} {c : XCode} {Q : XExit → Slots → Heap → Prop} {t : Slots} {h : Heap} (P : Slots → Heap → Prop) (hp : P t h) (hw : ∀ t h, P t h → cw O c Q t h) : cw O c Q t h := hw t h hp
theorem cw_reg_post1 {O l Q t h} (post : Slots → Heap → Prop) (h1 : cops O l post t h) (h2 : ∀ t h, post t h → Q .normal t h) : cw O (.reg l) Q t h := by
  rw [cw_reg]; exact cops_mono h2 h1
theorem frz_v (x : Value) : Frz (.v x) := .v x
theorem fz_nil : ∀ c ∈ ([] : List AV), Frz c := by simp
theorem fz_cons {a : AV} {l : List AV} (ha : Frz a) (hl : ∀ c ∈ l, Frz c) : ∀ c ∈ a :: l, Frz c := by
  intro c hc
  rcases List.mem_cons.1 hc with rfl | h
  · exact ha
  · exact hl c h
theorem fz_eI (x : Int) : ∀ c ∈ eI x, Frz c := fz_cons (frz_v _) fz_nil
end Go.Nw
