/- What the printed models are made of: checked reads, loops; and their rules. -/
import Derived.Test.YtkoonfmgmgfmdaaDoorNwDone
set_option linter.all false
set_option linter.unusedVariables false
set_option linter.unusedSimpArgs false
set_option linter.unusedSectionVars false
namespace Go.Nw
inductive Out (σ β : Type) where
  | nx (s : σ)
  | br (b : β)
def b2a {σ β : Type} (f : σ → Option (Out σ β)) : Nat → σ → Option β
  | 0, _ => none
  | n + 1, s => match f s with
    | none => none
    | some (.br b) => some b
    | some (.nx s') => b2a f n s'
theorem c4c {σ β : Type} {f : σ → Option (Out σ β)} : ∀ {n m : Nat} {s : σ} {b : β}, b2a f n s = some b → n ≤ m → b2a f m s = some b
  | 0, _, _, _, h, _ => by simp [b2a] at h
  | n + 1, 0, _, _, _, h => by omega
  | n + 1, m + 1, s, b, h, hl => by
    simp only [b2a] at h ⊢
    split at h
    · exact h
    · exact h
    · exact c4c h (by omega)
open Classical in
noncomputable def b01 {σ β : Type} (f : σ → Option (Out σ β)) (s : σ) : Option β :=
  if h : ∃ b n, b2a f n s = some b then some (Classical.choose h) else none
theorem b98 {σ β : Type} {f : σ → Option (Out σ β)} {s : σ} {b : β} {n : Nat} (h : b2a f n s = some b) : b01 f s = some b := by
  unfold b01
  have hx : ∃ b n, b2a f n s = some b := ⟨b, n, h⟩
  rw [dif_pos hx]
  obtain ⟨m, hm⟩ := Classical.choose_spec hx
  have h1 := c4c h (Nat.le_max_left n m)
  have h2 := c4c hm (Nat.le_max_right n m)
  rw [h1] at h2
  exact h2.symm
theorem c4b {σ β : Type} {f : σ → Option (Out σ β)} {s : σ} {b : β} (h : b01 f s = some b) : ∃ n, b2a f n s = some b := by
  unfold b01 at h
  split at h
  · rename_i hx
    obtain ⟨n, hn⟩ := Classical.choose_spec hx
    cases h
    exact ⟨n, hn⟩
  · cases h
theorem b70 {σ β : Type} {f : σ → Option (Out σ β)} {s s' : σ} (h : f s = some (.nx s')) : b01 f s = b01 f s' := by
  cases hb : b01 f s' with
  | some b =>
    obtain ⟨n, hn⟩ := c4b hb
    exact b98 (n := n + 1) (by simp only [b2a, h]; exact hn)
  | none =>
    cases hc : b01 f s with
    | none => rfl
    | some b =>
      obtain ⟨n, hn⟩ := c4b hc
      cases n with
      | zero => simp [b2a] at hn
      | succ n =>
        simp only [b2a, h] at hn
        rw [b98 hn] at hb
        cases hb
theorem b33 {σ β : Type} {f : σ → Option (Out σ β)} {s : σ} {b : β} (h : f s = some (.br b)) : b01 f s = some b :=
  b98 (n := 1) (by simp only [b2a, h])
theorem b2n {O : Orac} {a : XCode} {Q : XExit → Slots → Heap → Prop} {t : Slots} {h : Heap} {σ β : Type} {f : σ → Option (Out σ β)} {s0 : σ} {b : β}
    (hm : b01 f s0 = some b) (Rel : σ → Slots → Heap → Prop) (h0 : Rel s0 t h)
    (step : ∀ s o t h, Rel s t h → f s = some o → (∀ b', o = .br b' → b' = b) → cw O a (b4e (fun t' h' => ∃ s', o = .nx s' ∧ Rel s' t' h') Q) t h) : cw O (.loop a) Q t h := by
  obtain ⟨n, hn⟩ := c4b hm
  refine d5p (fun k t h => ∃ s, b2a f k s = some b ∧ Rel s t h) n ⟨s0, hn, h0⟩ ?_
  rintro k t h ⟨s, hs, hr⟩
  cases k with
  | zero => simp [b2a] at hs
  | succ k =>
    simp only [b2a] at hs
    cases ho : f s with
    | none => rw [ho] at hs; cases hs
    | some o =>
      rw [ho] at hs
      refine c6d ?_ (step s o t h hr ho ?_)
      · intro e t' h' hq
        cases e with
        | normal =>
          obtain ⟨s', rfl, hr'⟩ := hq
          exact ⟨k, by omega, s', hs, hr'⟩
        | exit id => exact hq
        | ret => exact hq
      · rintro b' rfl
        simp only [Option.some.injEq] at hs
        exact hs
theorem b0j {α β : Type} {x : Option α} {f : α → Option β} {b : β} (h : x.bind f = some b) : ∃ a, x = some a ∧ f a = some b := Option.bind_eq_some_iff.1 h
def get {α : Type} (l : List α) (i : Int) : Option α := if 0 ≤ i then l[i.toNat]? else none
theorem b1t {α : Type} {l : List α} {i : Int} {x : α} (h : get l i = some x) : 0 ≤ i := by
  unfold get at h; split at h
  · assumption
  · cases h
theorem b3l {α : Type} {l : List α} {i : Int} {x : α} (h : get l i = some x) : l[i.toNat]? = some x := by
  unfold get at h; split at h
  · exact h
  · cases h
theorem b14 {α : Type} {l : List α} {i : Int} {x : α} (h : get l i = some x) : i < l.length := by
  have h1 := b3l h
  have h2 := b1t h
  have := (List.getElem?_eq_some_iff.1 h1).1
  omega
theorem b09 {α : Type} {l : List α} {i : Int} {x : α} {k : α → Prop} (h : get l i = some x) : @b9v α l i ⟨k⟩ = k x := by
  show b4j l i k = k x
  simp only [b4j, b3l h, Option.some.injEq]
  apply propext; constructor
  · rintro ⟨a, _, rfl, hk⟩; exact hk
  · exact fun hk => ⟨x, b1t h, rfl, hk⟩
abbrev wr (n : Int) : Int := IntKind.i64.wrap n
theorem b8n {n : Int} (h1 : -9223372036854775808 ≤ n) (h2 : n < 9223372036854775808) : wr n = n := c5e h1 h2
def eI (x : Int) : List AV := [I x]
def eB (x : Bool) : List AV := [B x]
attribute [go_sem] eI eB
end Go.Nw
namespace Go.Nw
theorem b05 {O : Orac} {c : XCode} {Q : XExit → Slots → Heap → Prop} {t : Slots} {h : Heap} (P : Slots → Heap → Prop) (hp : P t h) (hw : ∀ t h, P t h → cw O c Q t h) : cw O c Q t h := hw t h hp
theorem b0a (x : Value) : Frz (.v x) := .v x
theorem b0p : ∀ c ∈ ([] : List AV), Frz c := by simp
theorem b0b {a : AV} {l : List AV} (ha : Frz a) (hl : ∀ c ∈ l, Frz c) : ∀ c ∈ a :: l, Frz c := by
  intro c hc
  rcases List.mem_cons.1 hc with rfl | h
  · exact ha
  · exact hl c h
theorem b1f (x : Int) : ∀ c ∈ eI x, Frz c := b0b (b0a _) b0p
end Go.Nw
