/- Rules for proofs about functions of the abstract machine: the state taken apart, one rule for each operation. -/
import Derived.Test.YtfahaljhgfjooaaDoorNwStep
set_option linter.all false
namespace Go.Nw
abbrev Slots := Nat -> AV
abbrev I (n : Int) : AV := .v (.int .i64 n)
abbrev B (b : Bool) : AV := .v (.bool b)
abbrev U : AV := .v (.tuple #[])
def evT (t : Slots) : X -> AV
 | .t n => t n
 | .tf n => b6a (t n)
 | .c v => .v v
 | .f n => .fn n [] []
 | .g _ cs => .fp (cs.map GC.av) 0
def b0g (t : Slots) (d : Option Nat) (x : AV) : Slots := match d with | some d => upd t d x | none => t
def cw (O : Orac) (c : XCode) (Q : XExit -> Slots -> Heap -> Prop) (t : Slots) (h : Heap) : Prop := wp O c (fun e s => Q e s.t s.h) ⟨t, h⟩
def b0c (O : Orac) (l : List XO) (K : Slots -> Heap -> Prop) (t : Slots) (h : Heap) : Prop := b2z O l (fun s => K s.t s.h) ⟨t, h⟩
def b5r (next : Slots -> Heap -> Prop) (Q : XExit -> Slots -> Heap -> Prop) : XExit -> Slots -> Heap -> Prop
 | .normal, t, h => next t h
 | e, t, h => Q e t h
def b6r (id : Nat) (Q : XExit -> Slots -> Heap -> Prop) : XExit -> Slots -> Heap -> Prop
 | .exit i, t, h => if i = id then Q .normal t h else Q (.exit i) t h
 | e, t, h => Q e t h
def br (x : Bool) (p q : Prop) : Prop := (x = true -> p) /\ (x = false -> q)
def c3f (x : AV) (p q : Prop) : Prop := ∃ b, x = .v (.bool b) /\ br b p q
def c3t (x : AV) (b : Bool) (p q : Prop) : Prop := match x with | .v (.bool y) => br (y == b) p q | .dead => False | _ => q
def op1 (O : Orac) (op : XOp) (t : Slots) (h : Heap) (k : AV -> Heap -> Prop) : Prop :=
 match op with
 | .callw f args => b50 O f (args.map (evT t)) h k
 | .call f args => b5z O f (args.map (evT t)) h k
 | .callv f args => ∃ n a b, callee (evT t f) = some (n, a, b) /\ b5z O n (a ++ args.map (evT t) ++ b) h k
 | .boxF x => b1v (evT t x) = true /\ k (.fp (cellsOf (evT t x)) 0) h
 | op => ∃ r h', eff op (evT t) h = some (r, h') /\ k r h'
theorem c3l (t : Slots) (h : Heap) : St.ev ⟨t, h⟩ = evT t := by funext x; cases x <;> rfl
theorem d0a (t : Slots) (h : Heap) (d : Option Nat) (x : AV) : St.put ⟨t, h⟩ d x = ⟨b0g t d x, h⟩ := by cases d <;> rfl
theorem b0r {O Q t h} : cw O .skip Q t h = Q .normal t h := rfl
theorem b4x {O l Q t h} : cw O (.reg l) Q t h = b0c O l (Q .normal) t h := rfl
theorem b8n {O a b Q t h} : cw O (.seq a b) Q t h = cw O a (b5r (cw O b Q) Q) t h := by
 have e : (XPost.seq (wp O b fun e s => Q e s.t s.h) fun e s => Q e s.t s.h) = fun e s => b5r (cw O b Q) Q e s.t s.h := by
  funext e s; cases e <;> rfl
 show wp O (.seq a b) _ _ = _
 simp only [wp, e]; rfl
theorem b0t {O id a Q t h} : cw O (.block id a) Q t h = cw O a (b6r id Q) t h := by
 have e : (XPost.block id fun e s => Q e s.t s.h) = fun e s => b6r id Q e s.t s.h := by
  funext e s; cases e <;> rfl
 show wp O (.block id a) _ _ = _
 simp only [wp, e]; rfl
theorem g29 {O c a b Q t h} : cw O (.cond c a b) Q t h = c3f (evT t c) (cw O a Q t h) (cw O b Q t h) := by
 show wp O (.cond c a b) _ _ = _
 simp only [wp, c3l]; rfl
theorem b1c {O id Q t h} : cw O (.exit id) Q t h = Q (.exit id) t h := rfl
theorem b0u {O Q t h} : cw O .ret Q t h = Q .ret t h := rfl
theorem b0e {n Q t h} : b5r n Q .normal t h = n t h := rfl
theorem b1h {n Q i t h} : b5r n Q (.exit i) t h = Q (.exit i) t h := rfl
theorem b1i {n Q t h} : b5r n Q .ret t h = Q .ret t h := rfl
theorem b00 {i Q t h} : b6r i Q .normal t h = Q .normal t h := rfl
theorem b13 {i Q t h} : b6r i Q .ret t h = Q .ret t h := rfl
theorem b1g {i Q t h} : b6r i Q (.exit i) t h = Q .normal t h := by simp [b6r]
theorem b86 {i j Q t h} (hne : ¬ j = i) : b6r i Q (.exit j) t h = Q (.exit j) t h := by simp [b6r, hne]
@[go_sem] def XOp.isFrz : XOp -> Bool
 | _ => false
theorem g28 {O K t h} : b0c O [] K t h = K t h := rfl
theorem b2b {O d op r K t h} (hf : op.isFrz = false) : b0c O (⟨d, none, op⟩ :: r) K t h = op1 O op t h (fun v h' => b0c O r K (b0g t d v) h') := by
 show b2z O _ _ _ = _
 cases op <;> simp only [b2z, wpOp, b2k, op1, c3l, d0a] <;> first | rfl | cases hf
theorem g26 {O d f l r K t h} : b0c O (⟨d, none, .callw f l⟩ :: r) K t h = op1 O (.callw f l) t h (fun v h' => b0c O r K (b0g t d v) h') := by
 show b2z O _ _ _ = _
 simp only [b2z, wpOp, b2k, op1, c3l, d0a]; rfl
theorem g27 {O d g b op r K t h} (hf : op.isFrz = false) : b0c O (⟨d, some (g, b), op⟩ :: r) K t h = c3t (t g) b (op1 O op t h (fun v h' => b0c O r K (b0g t d v) h')) (b0c O r K (b0g t d U) h) := by
 show b2z O _ _ _ = _
 have key : ∀ (p q : Prop), (match b2k ⟨t, h⟩ (some (g, b)) with | none => False | some false => q | some true => p) = c3t (t g) b p q := by
  intro p q
  unfold b2k c3t br
  simp only
  cases t g with
  | v x =>
   cases x with
   | bool y => simp only; cases y <;> cases b <;> simp
   | _ => rfl
  | _ => rfl
 rw [<- key]
 cases op <;> simp only [b2z, wpOp, op1, c3l, d0a] <;> first | (cases hf; done) | skip
 all_goals
  generalize b2k ⟨t, h⟩ (some (g, b)) = w
  cases w with
  | none => rfl
  | some w => cases w <;> rfl
def b2r (x : AV) (b : Bool) (p q q0 : Prop) : Prop := match x with | .v (.bool y) => br (y == b) p q | .dead => False | _ => q0
theorem b15 {O d g b op r K t h} (hf : op.isFrz = false) : b0c O (⟨d, some (g, b), op⟩ :: r) K t h =
  b2r (t g) b (op1 O op (upd t g (B b)) h (fun v h' => b0c O r K (b0g (upd t g (B b)) d v) h')) (b0c O r K (b0g (upd t g (B (!b))) d U) h) (b0c O r K (b0g t d U) h) := by
 rw [g27 hf]
 have hu : ∀ y, t g = .v (.bool y) -> ∀ z, y = z -> upd t g (B z) = t := fun y hy z hz => by
  subst hz; funext i; by_cases e : i = g
  ·subst e; simp [upd, hy]
  ·simp [upd, e]
 cases hy : t g with
 | v x =>
  cases x with
  | bool y => cases y <;> cases b <;> simp [b2r, c3t, br, hu _ hy]
  | _ => rfl
 | _ => rfl
theorem g5o {y p q q0} : b2r (.v (.bool y)) true p q q0 = br y p q := by cases y <;> rfl
theorem g5n {y p q q0} : b2r (.v (.bool y)) false p q q0 = br y q p := by cases y <;> simp [b2r, br]
theorem g0w {p q} : br true p q = p := by simp [br]
theorem g0v {p q} : br false p q = q := by simp [br]
theorem g24 {b p q} : c3f (.v (.bool b)) p q = br b p q := by
 simp only [c3f, AV.v.injEq, Value.bool.injEq]
 apply propext
 constructor
 ·rintro ⟨b', rfl, h⟩; exact h
 ·exact fun h => ⟨b, rfl, h⟩
theorem d8e {t : Slots} {n x} : upd t n x n = x := by simp [upd]
theorem d8c {t : Slots} {n m x} (h : ¬ m = n) : upd t n x m = t m := by simp [upd, h]
theorem c58 {O : Orac} {K K' : St -> Prop} (hk : ∀ s, K s -> K' s) : ∀ {l : List XO} {s : St}, b2z O l K s -> b2z O l K' s
 | [], _, h => hk _ h
 | _ :: _, _, h => by
  obtain ⟨s', h1, h2⟩ := c2e h
  exact c57 h1 (c58 hk h2)
theorem b2p {O : Orac} : ∀ (c : XCode) {Q Q' : XPost} (_ : ∀ e s, Q e s -> Q' e s) {s : St}, wp O c Q s -> wp O c Q' s := by
 intro c
 induction c with
 | skip => intro Q Q' hq s h; exact hq _ _ h
 | reg ops => intro Q Q' hq s h; exact c58 (hq .normal) h
 | regW ops prs => intro Q Q' hq s h; obtain ⟨S, h1, h2, h3, h4⟩ := h; exact ⟨S, h1, h2, h3, hq _ _ h4⟩
 | seq a b iha ihb =>
  intro Q Q' hq s h
  refine iha ?_ h
  intro e s h
  cases e with
  | normal => exact ihb hq h
  | exit id => exact hq _ _ h
  | ret => exact hq _ _ h
 | cond c a b iha ihb =>
  intro Q Q' hq s h
  obtain ⟨t, h1, h2, h3⟩ := h
  exact ⟨t, h1, fun e => iha hq (h2 e), fun e => ihb hq (h3 e)⟩
 | block id a ih =>
  intro Q Q' hq s h
  refine ih ?_ h
  intro e s h
  cases e with
  | normal => exact hq _ _ h
  | exit i => simp only [XPost.block] at h ⊢; split <;> rename_i hi <;> simp only [hi, if_true, if_false] at h <;> exact hq _ _ h
  | ret => exact hq _ _ h
 | loop a ih =>
  intro Q Q' hq s h
  obtain ⟨I, m, h1, h2⟩ := h
  refine ⟨I, m, h1, fun s' hs' => ih ?_ (h2 s' hs')⟩
  intro e s h
  cases e with
  | normal => exact h
  | exit id => exact hq _ _ h
  | ret => exact hq _ _ h
 | exit id => intro Q Q' hq s h; exact hq _ _ h
 | ret => intro Q Q' hq s h; exact hq _ _ h
 | ghost =>
  intro Q Q' hq s h
  obtain ⟨s', h1, h2⟩ := h
  exact ⟨s', h1, hq _ _ h2⟩
theorem d17 {O : Orac} {c : XCode} {Q Q' : XExit -> Slots -> Heap -> Prop} (hq : ∀ e t h, Q e t h -> Q' e t h) {t : Slots} {h : Heap} (hw : cw O c Q t h) : cw O c Q' t h := b2p c (fun e s => hq e s.t s.h) hw
theorem d14 {O : Orac} {l : List XO} {K K' : Slots -> Heap -> Prop} (hk : ∀ t h, K t h -> K' t h) {t : Slots} {h : Heap} (hw : b0c O l K t h) : b0c O l K' t h := c58 (fun s => hk s.t s.h) hw
theorem b0k {O a b Q t h} (hk : ∀ K : Slots -> Heap -> Prop, (∀ t h, cw O b Q t h -> K t h) -> cw O a (b5r K Q) t h) : cw O (.seq a b) Q t h := by
 rw [b8n]; exact hk _ fun _ _ h => h
theorem b02 {O l Q t h} (hk : ∀ K : Slots -> Heap -> Prop, (∀ t h, Q .normal t h -> K t h) -> b0c O l K t h) : cw O (.reg l) Q t h := by
 rw [b4x]; exact hk _ fun _ _ h => h
theorem b0b {O l b Q t h} (hk : ∀ K : Slots -> Heap -> Prop, (∀ t h, cw O b Q t h -> K t h) -> b0c O l K t h) : cw O (.seq (.reg l) b) Q t h := by
 rw [b8n, b4x]; exact hk _ fun _ _ h => h
theorem g3d {O l b Q t h} (post : Slots -> Heap -> Prop) (h1 : b0c O l post t h) (h2 : ∀ t h, post t h -> cw O b Q t h) : cw O (.seq (.reg l) b) Q t h := by
 rw [b8n, b4x]; exact d14 h2 h1
theorem b0s {O a b c Q t h} (hw : cw O (.seq a (.seq b c)) Q t h) : cw O (.seq (.seq a b) c) Q t h := by
 rw [b8n, b8n] at *
 refine d17 ?_ hw
 intro e t h hh
 cases e with
 | normal => simp only [b5r] at hh; rw [b8n] at hh; exact hh
 | _ => exact hh
theorem b95 {O : Orac} {a : XCode} {Q : XExit -> Slots -> Heap -> Prop} {t : Slots} {h : Heap} (J : Nat -> Slots -> Heap -> Prop) (n : Nat) (h0 : J n t h)
  (step : ∀ k t h, J k t h -> cw O a (b5r (fun t' h' => ∃ k', k' < k /\ J k' t' h') Q) t h) : cw O (.loop a) Q t h := by
 classical
 have least : ∀ {p : Nat -> Prop}, (∃ n, p n) -> ∃ n, p n /\ ∀ m, p m -> n <= m := fun {p} hp => by
  obtain ⟨n, hn⟩ := hp
  induction n using Nat.strongRecOn with
  | _ n ih =>
   by_cases hm : ∃ m, m < n /\ p m
   ·obtain ⟨m, hlt, hpm⟩ := hm; exact ih m hlt hpm
   ·exact ⟨n, hn, fun m hpm => Nat.le_of_not_lt fun hlt => hm ⟨m, hlt, hpm⟩⟩
 show wp O (.loop a) _ _
 simp only [wp]
 refine ⟨fun s => ∃ k, J k s.t s.h, fun s => if hs : ∃ k, J k s.t s.h then Classical.choose (least hs) else 0, ⟨n, h0⟩, fun s hs => ?_⟩
 have hm := Classical.choose_spec (least hs)
 simp only [dif_pos hs]
 refine b2p a ?_ (step _ _ _ hm.1)
 intro e s2 h2
 cases e with
 | normal =>
  obtain ⟨k', hlt, hJ⟩ := h2
  have hs2 : ∃ k, J k s2.t s2.h := ⟨k', hJ⟩
  refine ⟨hs2, ?_⟩
  simp only [dif_pos hs2]
  exact Nat.lt_of_le_of_lt ((Classical.choose_spec (least hs2)).2 k' hJ) hlt
 | exit id => exact h2
 | ret => exact h2
end Go.Nw
