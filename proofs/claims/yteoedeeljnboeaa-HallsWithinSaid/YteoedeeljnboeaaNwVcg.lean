/- Rules for proofs about functions of the abstract machine: the state taken apart, one rule for each operation. -/
import Derived.Test.YteoedeeljnboeaaNwStep
set_option linter.all false
set_option linter.unusedVariables false
set_option linter.unusedSimpArgs false
set_option linter.unusedSectionVars false
namespace Go.Nw

abbrev Slots := Nat → AV
abbrev I (n : Int) : AV := .v (.int .i64 n)
abbrev B (b : Bool) : AV := .v (.bool b)
abbrev U : AV := .v (.tuple #[])

def evT (t : Slots) : X → AV
  | .t n => t n
  | .tf n => frzOf (t n)
  | .c v => .v v
  | .f n => .fn n [] []
  | .g _ cs => .fp (cs.map .v) 0

def putT (t : Slots) (d : Option Nat) (x : AV) : Slots := match d with | some d => upd t d x | none => t

/-- Code in slots and heap. -/
def cw (O : Orac) (c : XCode) (Q : XExit → Slots → Heap → Prop) (t : Slots) (h : Heap) : Prop := wp O c (fun e s => Q e s.t s.h) ⟨t, h⟩
def cops (O : Orac) (l : List XO) (K : Slots → Heap → Prop) (t : Slots) (h : Heap) : Prop := wpOps O l (fun s => K s.t s.h) ⟨t, h⟩

def qseq (next : Slots → Heap → Prop) (Q : XExit → Slots → Heap → Prop) : XExit → Slots → Heap → Prop
  | .normal, t, h => next t h
  | e, t, h => Q e t h
def qblock (id : Nat) (Q : XExit → Slots → Heap → Prop) : XExit → Slots → Heap → Prop
  | .exit i, t, h => if i = id then Q .normal t h else Q (.exit i) t h
  | e, t, h => Q e t h

/-- A branch. -/
def br (x : Bool) (p q : Prop) : Prop := (x = true → p) ∧ (x = false → q)
def condK (x : AV) (p q : Prop) : Prop := ∃ b, x = .v (.bool b) ∧ br b p q
def guardK (x : AV) (b : Bool) (p q : Prop) : Prop := match x with | .v (.bool y) => br (y == b) p q | .dead => False | _ => q

/-- An operation, with what comes behind it. -/
def op1 (O : Orac) (op : XOp) (t : Slots) (h : Heap) (k : AV → Heap → Prop) : Prop :=
  match op with
  | .callw f args => callwWp O f (args.map (evT t)) h k
  | .call f args => callWp O f (args.map (evT t)) h k
  | .callv f args => ∃ n a b, callee (evT t f) = some (n, a, b) ∧ callWp O n (a ++ args.map (evT t) ++ b) h k
  | .boxF x => okCells (evT t x) = true ∧ k (.fp (cellsOf (evT t x)) 0) h
  | op => ∃ r h', eff op (evT t) h = some (r, h') ∧ k r h'

theorem ev_evT (t : Slots) (h : Heap) : St.ev ⟨t, h⟩ = evT t := by funext x; cases x <;> rfl
theorem put_putT (t : Slots) (h : Heap) (d : Option Nat) (x : AV) : St.put ⟨t, h⟩ d x = ⟨putT t d x, h⟩ := by cases d <;> rfl

theorem cw_skip {O Q t h} : cw O .skip Q t h = Q .normal t h := rfl
theorem cw_reg {O l Q t h} : cw O (.reg l) Q t h = cops O l (Q .normal) t h := rfl
theorem cw_seq {O a b Q t h} : cw O (.seq a b) Q t h = cw O a (qseq (cw O b Q) Q) t h := by
  have e : (XPost.seq (wp O b fun e s => Q e s.t s.h) fun e s => Q e s.t s.h) = fun e s => qseq (cw O b Q) Q e s.t s.h := by
    funext e s; cases e <;> rfl
  show wp O (.seq a b) _ _ = _
  simp only [wp, e]; rfl
theorem cw_block {O id a Q t h} : cw O (.block id a) Q t h = cw O a (qblock id Q) t h := by
  have e : (XPost.block id fun e s => Q e s.t s.h) = fun e s => qblock id Q e s.t s.h := by
    funext e s; cases e <;> rfl
  show wp O (.block id a) _ _ = _
  simp only [wp, e]; rfl
theorem cw_cond {O c a b Q t h} : cw O (.cond c a b) Q t h = condK (evT t c) (cw O a Q t h) (cw O b Q t h) := by
  show wp O (.cond c a b) _ _ = _
  simp only [wp, ev_evT]; rfl
theorem cw_exit {O id Q t h} : cw O (.exit id) Q t h = Q (.exit id) t h := rfl
theorem cw_ret {O Q t h} : cw O .ret Q t h = Q .ret t h := rfl

theorem qseq_normal {n Q t h} : qseq n Q .normal t h = n t h := rfl
theorem qseq_exit {n Q i t h} : qseq n Q (.exit i) t h = Q (.exit i) t h := rfl
theorem qseq_ret {n Q t h} : qseq n Q .ret t h = Q .ret t h := rfl
theorem qblock_normal {i Q t h} : qblock i Q .normal t h = Q .normal t h := rfl
theorem qblock_ret {i Q t h} : qblock i Q .ret t h = Q .ret t h := rfl
theorem qblock_same {i Q t h} : qblock i Q (.exit i) t h = Q .normal t h := by simp [qblock]
theorem qblock_ne {i j Q t h} (hne : ¬ j = i) : qblock i Q (.exit j) t h = Q (.exit j) t h := by simp [qblock, hne]

@[go_sem] def XOp.isFrz : XOp → Bool
  | .callw .. => true
  | _ => false

theorem cops_nil {O K t h} : cops O [] K t h = K t h := rfl
theorem cops_cons {O d op r K t h} (hf : op.isFrz = false) : cops O (⟨d, none, op⟩ :: r) K t h = op1 O op t h (fun v h' => cops O r K (putT t d v) h') := by
  show wpOps O _ _ _ = _
  cases op <;> simp only [wpOps, wpOp, wantedX, op1, ev_evT, put_putT] <;> first | rfl | cases hf
theorem cops_consW {O d f l r K t h} : cops O (⟨d, none, .callw f l⟩ :: r) K t h = op1 O (.callw f l) t h (fun v h' => cops O r K (putT t d v) h') := by
  show wpOps O _ _ _ = _
  simp only [wpOps, wpOp, wantedX, op1, ev_evT, put_putT]; rfl
theorem cops_guard {O d g b op r K t h} (hf : op.isFrz = false) : cops O (⟨d, some (g, b), op⟩ :: r) K t h = guardK (t g) b (op1 O op t h (fun v h' => cops O r K (putT t d v) h')) (cops O r K (putT t d U) h) := by
  show wpOps O _ _ _ = _
  have key : ∀ (p q : Prop), (match wantedX ⟨t, h⟩ (some (g, b)) with | none => False | some false => q | some true => p) = guardK (t g) b p q := by
    intro p q
    unfold wantedX guardK br
    simp only
    cases t g with
    | v x =>
      cases x with
      | bool y => simp only; cases y <;> cases b <;> simp
      | _ => rfl
    | _ => rfl
  rw [← key]
  cases op <;> simp only [wpOps, wpOp, op1, ev_evT, put_putT] <;> first | (cases hf; done) | skip
  all_goals
    generalize wantedX ⟨t, h⟩ (some (g, b)) = w
    cases w with
    | none => rfl
    | some w => cases w <;> rfl

/-- A guard: behind it the slot holds which way it went. -/
def guardU (x : AV) (b : Bool) (p q q0 : Prop) : Prop := match x with | .v (.bool y) => br (y == b) p q | .dead => False | _ => q0
theorem cops_guardU {O d g b op r K t h} (hf : op.isFrz = false) : cops O (⟨d, some (g, b), op⟩ :: r) K t h =
    guardU (t g) b (op1 O op (upd t g (B b)) h (fun v h' => cops O r K (putT (upd t g (B b)) d v) h')) (cops O r K (putT (upd t g (B (!b))) d U) h) (cops O r K (putT t d U) h) := by
  rw [cops_guard hf]
  have hu : ∀ y, t g = .v (.bool y) → ∀ z, y = z → upd t g (B z) = t := fun y hy z hz => by
    subst hz; funext i; by_cases e : i = g
    · subst e; simp [upd, hy]
    · simp [upd, e]
  cases hy : t g with
  | v x =>
    cases x with
    | bool y => cases y <;> cases b <;> simp [guardU, guardK, br, hu _ hy]
    | _ => rfl
  | _ => rfl
theorem guardU_t {y p q q0} : guardU (.v (.bool y)) true p q q0 = br y p q := by cases y <;> rfl
theorem guardU_f {y p q q0} : guardU (.v (.bool y)) false p q q0 = br y q p := by cases y <;> simp [guardU, br]
theorem br_true {p q} : br true p q = p := by simp [br]
theorem br_false {p q} : br false p q = q := by simp [br]
theorem condK_b {b p q} : condK (.v (.bool b)) p q = br b p q := by
  simp only [condK, AV.v.injEq, Value.bool.injEq]
  apply propext
  constructor
  · rintro ⟨b', rfl, h⟩; exact h
  · exact fun h => ⟨b, rfl, h⟩
theorem upd_same {t : Slots} {n x} : upd t n x n = x := by simp [upd]
theorem upd_ne {t : Slots} {n m x} (h : ¬ m = n) : upd t n x m = t m := by simp [upd, h]

theorem wpOps_mono {O : Orac} {K K' : St → Prop} (hk : ∀ s, K s → K' s) : ∀ {l : List XO} {s : St}, wpOps O l K s → wpOps O l K' s
  | [], _, h => hk _ h
  | _ :: _, _, h => by
    obtain ⟨s', h1, h2⟩ := wpOp_get h
    exact wpOp_put h1 (wpOps_mono hk h2)

theorem wpx_mono {O : Orac} : ∀ (c : XCode) {Q Q' : XPost} (_ : ∀ e s, Q e s → Q' e s) {s : St}, wp O c Q s → wp O c Q' s := by
  intro c
  induction c with
  | skip => intro Q Q' hq s h; exact hq _ _ h
  | reg ops => intro Q Q' hq s h; exact wpOps_mono (hq .normal) h
  | seq a b iha ihb =>
    intro Q Q' hq s h
    refine iha ?_ h
    intro e s h
    cases e with
    | normal => exact ihb hq h
    | exit id => exact hq _ _ h
    | ret => exact hq _ _ h
  | cond c a b iha ihb =>
    intro Q Q' hq s h
    obtain ⟨t, h1, h2, h3⟩ := h
    exact ⟨t, h1, fun e => iha hq (h2 e), fun e => ihb hq (h3 e)⟩
  | block id a ih =>
    intro Q Q' hq s h
    refine ih ?_ h
    intro e s h
    cases e with
    | normal => exact hq _ _ h
    | exit i => simp only [XPost.block] at h ⊢; split <;> rename_i hi <;> simp only [hi, if_true, if_false] at h <;> exact hq _ _ h
    | ret => exact hq _ _ h
  | loop a ih =>
    intro Q Q' hq s h
    obtain ⟨I, m, h1, h2⟩ := h
    refine ⟨I, m, h1, fun s' hs' => ih ?_ (h2 s' hs')⟩
    intro e s h
    cases e with
    | normal => exact h
    | exit id => exact hq _ _ h
    | ret => exact hq _ _ h
  | exit id => intro Q Q' hq s h; exact hq _ _ h
  | ret => intro Q Q' hq s h; exact hq _ _ h
  | ghost =>
    intro Q Q' hq s h
    obtain ⟨s', h1, h2⟩ := h
    exact ⟨s', h1, hq _ _ h2⟩

theorem cw_mono {O : Orac} {c : XCode} {Q Q' : XExit → Slots → Heap → Prop} (hq : ∀ e t h, Q e t h → Q' e t h) {t : Slots} {h : Heap} (hw : cw O c Q t h) : cw O c Q' t h := wpx_mono c (fun e s => hq e s.t s.h) hw
theorem cops_mono {O : Orac} {l : List XO} {K K' : Slots → Heap → Prop} (hk : ∀ t h, K t h → K' t h) {t : Slots} {h : Heap} (hw : cops O l K t h) : cops O l K' t h := wpOps_mono (fun s => hk s.t s.h) hw

/-- In a sequence: what follows stands behind a variable. -/
theorem cw_seq_k {O a b Q t h} (hk : ∀ K : Slots → Heap → Prop, (∀ t h, cw O b Q t h → K t h) → cw O a (qseq K Q) t h) : cw O (.seq a b) Q t h := by
  rw [cw_seq]; exact hk _ fun _ _ h => h
/-- A region: what follows stands behind a variable. -/
theorem cw_reg_k {O l Q t h} (hk : ∀ K : Slots → Heap → Prop, (∀ t h, Q .normal t h → K t h) → cops O l K t h) : cw O (.reg l) Q t h := by
  rw [cw_reg]; exact hk _ fun _ _ h => h
theorem cw_reg_seq {O l b Q t h} (hk : ∀ K : Slots → Heap → Prop, (∀ t h, cw O b Q t h → K t h) → cops O l K t h) : cw O (.seq (.reg l) b) Q t h := by
  rw [cw_seq, cw_reg]; exact hk _ fun _ _ h => h
/-- A region with what it leaves. -/
theorem cw_reg_post {O l b Q t h} (post : Slots → Heap → Prop) (h1 : cops O l post t h) (h2 : ∀ t h, post t h → cw O b Q t h) : cw O (.seq (.reg l) b) Q t h := by
  rw [cw_seq, cw_reg]; exact cops_mono h2 h1
theorem cw_assoc {O a b c Q t h} (hw : cw O (.seq a (.seq b c)) Q t h) : cw O (.seq (.seq a b) c) Q t h := by
  rw [cw_seq, cw_seq] at *
  refine cw_mono ?_ hw
  intro e t h hh
  cases e with
  | normal => simp only [qseq] at hh; rw [cw_seq] at hh; exact hh
  | _ => exact hh

/-- A loop with a number that goes down. -/
theorem cw_loop {O : Orac} {a : XCode} {Q : XExit → Slots → Heap → Prop} {t : Slots} {h : Heap} (J : Nat → Slots → Heap → Prop) (n : Nat) (h0 : J n t h)
    (step : ∀ k t h, J k t h → cw O a (qseq (fun t' h' => ∃ k', k' < k ∧ J k' t' h') Q) t h) : cw O (.loop a) Q t h := by
  classical
  have least : ∀ {p : Nat → Prop}, (∃ n, p n) → ∃ n, p n ∧ ∀ m, p m → n ≤ m := fun {p} hp => by
    obtain ⟨n, hn⟩ := hp
    induction n using Nat.strongRecOn with
    | _ n ih =>
      by_cases hm : ∃ m, m < n ∧ p m
      · obtain ⟨m, hlt, hpm⟩ := hm; exact ih m hlt hpm
      · exact ⟨n, hn, fun m hpm => Nat.le_of_not_lt fun hlt => hm ⟨m, hlt, hpm⟩⟩
  show wp O (.loop a) _ _
  simp only [wp]
  refine ⟨fun s => ∃ k, J k s.t s.h, fun s => if hs : ∃ k, J k s.t s.h then Classical.choose (least hs) else 0, ⟨n, h0⟩, fun s hs => ?_⟩
  have hm := Classical.choose_spec (least hs)
  simp only [dif_pos hs]
  refine wpx_mono a ?_ (step _ _ _ hm.1)
  intro e s2 h2
  cases e with
  | normal =>
    obtain ⟨k', hlt, hJ⟩ := h2
    have hs2 : ∃ k, J k s2.t s2.h := ⟨k', hJ⟩
    refine ⟨hs2, ?_⟩
    simp only [dif_pos hs2]
    exact Nat.lt_of_le_of_lt ((Classical.choose_spec (least hs2)).2 k' hJ) hlt
  | exit id => exact h2
  | ret => exact h2

end Go.Nw
