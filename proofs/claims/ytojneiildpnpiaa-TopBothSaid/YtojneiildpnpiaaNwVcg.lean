/- Rules for proofs about functions of the abstract machine: the state taken apart, one rule for each operation. -/
import Derived.Test.YtojneiildpnpiaaNwStep
set_option linter.all false
namespace Go.Nw
abbrev Slots:=Nat->AV
abbrev I (n:Int):AV:=.v (.int .i64 n)
abbrev B (b:Bool):AV:=.v (.bool b)
abbrev U:AV:=.v (.tuple #[])
def evT (t:Slots):X->AV
 | .t n=>t n
 | .tf n=>r7o (t n)
 | .c v=>.v v
 | .f n=>.fn n [] []
 | .g _ cs=>.fp (cs.map GC.av) 0
def b0l (t:Slots) (d:Option Nat) (x:AV):Slots:=match d with|some d=>upd t d x|none=>t
def cw (O:Orac) (c:XCode) (Q:XExit->Slots->Heap->Prop) (t:Slots) (h:Heap):Prop:=wp O c (fun e s=>Q e s.t s.h) ⟨t,h⟩
def b0d (O:Orac) (l:List XO) (K:Slots->Heap->Prop) (t:Slots) (h:Heap):Prop:=b3i O l (fun s=>K s.t s.h) ⟨t,h⟩
def b6r (next:Slots->Heap->Prop) (Q:XExit->Slots->Heap->Prop):XExit->Slots->Heap->Prop
 | .normal,t,h=>next t h
 | e,t,h=>Q e t h
def b7l (id:Nat) (Q:XExit->Slots->Heap->Prop):XExit->Slots->Heap->Prop
 | .exit i,t,h=>if i=id then Q .normal t h else Q (.exit i) t h
 | e,t,h=>Q e t h
def br (x:Bool) (p q:Prop):Prop:=(x=true->p)/\(x=false->q)
def c6q (x:AV) (p q:Prop):Prop:=∃ b,x = .v (.bool b)/\br b p q
def D1f (x:AV) (b:Bool) (p q:Prop):Prop:=match x with | .v (.bool y)=>br (y == b) p q | .dead=>False|_=>q
def op1 (O:Orac) (op:XOp) (t:Slots) (h:Heap) (k:AV->Heap->Prop):Prop :=
 match op with
 | .callw f args=>b6e O f (args.map (evT t)) h k
 | .call f args=>b6z O f (args.map (evT t)) h k
 | .callv f args=>∃ n a b,callee (evT t f)=some (n,a,b)/\b6z O n (a++args.map (evT t)++b) h k
 | .boxF x=>b2d (evT t x)=true/\k (.fp (cellsOf (evT t x)) 0) h
 | op=>∃ r h',eff op (evT t) h=some (r,h')/\k r h'
theorem c6z (t:Slots) (h:Heap):St.ev ⟨t,h⟩=evT t:=by funext x; cases x <;> rfl
theorem d4n (t:Slots) (h:Heap) (d:Option Nat) (x:AV):St.put ⟨t,h⟩ d x=⟨b0l t d x,h⟩:=by cases d <;> rfl
theorem b0s {O Q t h}:cw O .skip Q t h=Q .normal t h:=rfl
theorem b5n {O l Q t h}:cw O (.reg l) Q t h=b0d O l (Q .normal) t h:=rfl
theorem b9z {O a b Q t h}:cw O (.seq a b) Q t h=cw O a (b6r (cw O b Q) Q) t h:=by
 have e:(XPost.seq (wp O b fun e s=>Q e s.t s.h) fun e s=>Q e s.t s.h)=fun e s=>b6r (cw O b Q) Q e s.t s.h:=by
  funext e s; cases e <;> rfl
 show wp O (.seq a b) _ _=_
 simp only [wp,e]; rfl
theorem b0u {O id a Q t h}:cw O (.block id a) Q t h=cw O a (b7l id Q) t h:=by
 have e:(XPost.block id fun e s=>Q e s.t s.h)=fun e s=>b7l id Q e s.t s.h:=by
  funext e s; cases e <;> rfl
 show wp O (.block id a) _ _=_
 simp only [wp,e]; rfl
theorem g9i {O c a b Q t h}:cw O (.cond c a b) Q t h=c6q (evT t c) (cw O a Q t h) (cw O b Q t h):=by
 show wp O (.cond c a b) _ _=_
 simp only [wp,c6z]; rfl
theorem b09 {O id Q t h}:cw O (.exit id) Q t h=Q (.exit id) t h:=rfl
theorem b0x {O Q t h}:cw O .ret Q t h=Q .ret t h:=rfl
theorem b0f {n Q t h}:b6r n Q .normal t h=n t h:=rfl
theorem b1b {n Q i t h}:b6r n Q (.exit i) t h=Q (.exit i) t h:=rfl
theorem b1p {n Q t h}:b6r n Q .ret t h=Q .ret t h:=rfl
theorem b02 {i Q t h}:b7l i Q .normal t h=Q .normal t h:=rfl
theorem b2e {i Q t h}:b7l i Q .ret t h=Q .ret t h:=rfl
theorem b1a {i Q t h}:b7l i Q (.exit i) t h=Q .normal t h:=by simp [b7l]
theorem c0s {i j Q t h} (hne:¬ j=i):b7l i Q (.exit j) t h=Q (.exit j) t h:=by simp [b7l,hne]
@[go_sem] def XOp.isFrz:XOp->Bool
 | _=>false
theorem g9h {O K t h}:b0d O [] K t h=K t h:=rfl
theorem b2n {O d op r K t h} (hf:op.isFrz=false):b0d O (⟨d,none,op⟩ :: r) K t h=op1 O op t h (fun v h'=>b0d O r K (b0l t d v) h'):=by
 show b3i O _ _ _=_
 cases op <;> simp only [b3i,wpOp,b2y,op1,c6z,d4n] <;> first|rfl|cases hf
theorem g9f {O d f l r K t h}:b0d O (⟨d,none,.callw f l⟩ :: r) K t h=op1 O (.callw f l) t h (fun v h'=>b0d O r K (b0l t d v) h'):=by
 show b3i O _ _ _=_
 simp only [b3i,wpOp,b2y,op1,c6z,d4n]; rfl
theorem g9g {O d g b op r K t h} (hf:op.isFrz=false):b0d O (⟨d,some (g,b),op⟩ :: r) K t h=D1f (t g) b (op1 O op t h (fun v h'=>b0d O r K (b0l t d v) h')) (b0d O r K (b0l t d U) h):=by
 show b3i O _ _ _=_
 have key:∀ (p q:Prop),(match b2y ⟨t,h⟩ (some (g,b)) with|none=>False|some false=>q|some true=>p)=D1f (t g) b p q:=by
  intro p q
  unfold b2y D1f br
  simp only
  cases t g with
  | v x =>
   cases x with
   | bool y=>simp only; cases y <;> cases b <;> simp
   | _=>rfl
  | _=>rfl
 rw [<- key]
 cases op <;> simp only [b3i,wpOp,op1,c6z,d4n] <;> first|(cases hf; done)|skip
 all_goals
  generalize b2y ⟨t,h⟩ (some (g,b))=w
  cases w with
  | none=>rfl
  | some w=>cases w <;> rfl
def b3c (x:AV) (b:Bool) (p q q0:Prop):Prop:=match x with | .v (.bool y)=>br (y == b) p q | .dead=>False|_=>q0
theorem b2l {O d g b op r K t h} (hf:op.isFrz=false):b0d O (⟨d,some (g,b),op⟩ :: r) K t h =
  b3c (t g) b (op1 O op (upd t g (B b)) h (fun v h'=>b0d O r K (b0l (upd t g (B b)) d v) h')) (b0d O r K (b0l (upd t g (B (!b))) d U) h) (b0d O r K (b0l t d U) h):=by
 rw [g9g hf]
 have hu:∀ y,t g = .v (.bool y)->∀ z,y=z->upd t g (B z)=t:=fun y hy z hz=>by
  subst hz; funext i; by_cases e:i=g
  ·subst e; simp [upd,hy]
  ·simp [upd,e]
 cases hy:t g with
 | v x =>
  cases x with
  | bool y=>cases y <;> cases b <;> simp [b3c,D1f,br,hu _ hy]
  | _=>rfl
 | _=>rfl
theorem j12 {y p q q0}:b3c (.v (.bool y)) true p q q0=br y p q:=by cases y <;> rfl
theorem j11 {y p q q0}:b3c (.v (.bool y)) false p q q0=br y q p:=by cases y <;> simp [b3c,br]
theorem g6u {p q}:br true p q=p:=by simp [br]
theorem g6t {p q}:br false p q=q:=by simp [br]
theorem g9e {b p q}:c6q (.v (.bool b)) p q=br b p q:=by
 simp only [c6q,AV.v.injEq,Value.bool.injEq]
 apply propext
 constructor
 ·rintro ⟨b',rfl,h⟩; exact h
 ·exact fun h=>⟨b,rfl,h⟩
theorem g3t {t:Slots} {n x}:upd t n x n=x:=by simp [upd]
theorem g3r {t:Slots} {n m x} (h:¬ m=n):upd t n x m=t m:=by simp [upd,h]
theorem c9s {O:Orac} {K K':St->Prop} (hk:∀ s,K s->K' s):∀ {l:List XO} {s:St},b3i O l K s->b3i O l K' s
 | [],_,h=>hk _ h
 | _ :: _,_,h=>by
  obtain ⟨s',h1,h2⟩:=c5b h
  exact c9r h1 (c9s hk h2)
theorem s8m {O:Orac}:∀ (c:XCode) {Q Q':XPost} (_:∀ e s,Q e s->Q' e s) {s:St},wp O c Q s->wp O c Q' s:=by
 intro c
 induction c with
 | skip=>intro Q Q' hq s h; exact hq _ _ h
 | reg ops=>intro Q Q' hq s h; exact c9s (hq .normal) h
 | regW ops prs=>intro Q Q' hq s h; obtain ⟨S,h1,h2,h3,h4⟩:=h; exact ⟨S,h1,h2,h3,hq _ _ h4⟩
 | seq a b iha ihb =>
  intro Q Q' hq s h
  refine iha ?_ h
  intro e s h
  cases e with
  | normal=>exact ihb hq h
  | exit id=>exact hq _ _ h
  | ret=>exact hq _ _ h
 | cond c a b iha ihb =>
  intro Q Q' hq s h
  obtain ⟨t,h1,h2,h3⟩:=h
  exact ⟨t,h1,fun e=>iha hq (h2 e),fun e=>ihb hq (h3 e)⟩
 | block id a ih =>
  intro Q Q' hq s h
  refine ih ?_ h
  intro e s h
  cases e with
  | normal=>exact hq _ _ h
  | exit i=>simp only [XPost.block] at h ⊢; split <;> rename_i hi <;> simp only [hi,if_true,if_false] at h <;> exact hq _ _ h
  | ret=>exact hq _ _ h
 | loop a ih =>
  intro Q Q' hq s h
  obtain ⟨I,m,h1,h2⟩:=h
  refine ⟨I,m,h1,fun s' hs'=>ih ?_ (h2 s' hs')⟩
  intro e s h
  cases e with
  | normal=>exact h
  | exit id=>exact hq _ _ h
  | ret=>exact hq _ _ h
 | exit id=>intro Q Q' hq s h; exact hq _ _ h
 | ret=>intro Q Q' hq s h; exact hq _ _ h
 | ghost =>
  intro Q Q' hq s h
  obtain ⟨s',h1,h2⟩:=h
  exact ⟨s',h1,hq _ _ h2⟩
theorem d64 {O:Orac} {c:XCode} {Q Q':XExit->Slots->Heap->Prop} (hq:∀ e t h,Q e t h->Q' e t h) {t:Slots} {h:Heap} (hw:cw O c Q t h):cw O c Q' t h:=s8m c (fun e s=>hq e s.t s.h) hw
theorem d60 {O:Orac} {l:List XO} {K K':Slots->Heap->Prop} (hk:∀ t h,K t h->K' t h) {t:Slots} {h:Heap} (hw:b0d O l K t h):b0d O l K' t h:=c9s (fun s=>hk s.t s.h) hw
theorem b0i {O a b Q t h} (hk:∀ K:Slots->Heap->Prop,(∀ t h,cw O b Q t h->K t h)->cw O a (b6r K Q) t h):cw O (.seq a b) Q t h:=by
 rw [b9z]; exact hk _ fun _ _ h=>h
theorem b03 {O l Q t h} (hk:∀ K:Slots->Heap->Prop,(∀ t h,Q .normal t h->K t h)->b0d O l K t h):cw O (.reg l) Q t h:=by
 rw [b5n]; exact hk _ fun _ _ h=>h
theorem b0b {O l b Q t h} (hk:∀ K:Slots->Heap->Prop,(∀ t h,cw O b Q t h->K t h)->b0d O l K t h):cw O (.seq (.reg l) b) Q t h:=by
 rw [b9z,b5n]; exact hk _ fun _ _ h=>h
theorem g9n {O l b Q t h} (post:Slots->Heap->Prop) (h1:b0d O l post t h) (h2:∀ t h,post t h->cw O b Q t h):cw O (.seq (.reg l) b) Q t h:=by
 rw [b9z,b5n]; exact d60 h2 h1
theorem b0v {O a b c Q t h} (hw:cw O (.seq a (.seq b c)) Q t h):cw O (.seq (.seq a b) c) Q t h:=by
 rw [b9z,b9z] at *
 refine d64 ?_ hw
 intro e t h hh
 cases e with
 | normal=>simp only [b6r] at hh; rw [b9z] at hh; exact hh
 | _=>exact hh
theorem c2k {O:Orac} {a:XCode} {Q:XExit->Slots->Heap->Prop} {t:Slots} {h:Heap} (J:Nat->Slots->Heap->Prop) (n:Nat) (h0:J n t h)
  (step : ∀ k t h,J k t h->cw O a (b6r (fun t' h'=>∃ k',k'<k/\J k' t' h') Q) t h):cw O (.loop a) Q t h:=by
 classical
 have least:∀ {p:Nat->Prop},(∃ n,p n)->∃ n,p n/\∀ m,p m->n<=m:=fun {p} hp=>by
  obtain ⟨n,hn⟩:=hp
  induction n using Nat.strongRecOn with
  | _ n ih =>
   by_cases hm:∃ m,m<n/\p m
   ·obtain ⟨m,hlt,hpm⟩:=hm; exact ih m hlt hpm
   ·exact ⟨n,hn,fun m hpm=>Nat.le_of_not_lt fun hlt=>hm ⟨m,hlt,hpm⟩⟩
 show wp O (.loop a) _ _
 simp only [wp]
 refine ⟨fun s=>∃ k,J k s.t s.h,fun s=>if hs:∃ k,J k s.t s.h then Classical.choose (least hs) else 0,⟨n,h0⟩,fun s hs=>?_⟩
 have hm:=Classical.choose_spec (least hs)
 simp only [dif_pos hs]
 refine s8m a ?_ (step _ _ _ hm.1)
 intro e s2 h2
 cases e with
 | normal =>
  obtain ⟨k',hlt,hJ⟩:=h2
  have hs2:∃ k,J k s2.t s2.h:=⟨k',hJ⟩
  refine ⟨hs2,?_⟩
  simp only [dif_pos hs2]
  exact Nat.lt_of_le_of_lt ((Classical.choose_spec (least hs2)).2 k' hJ) hlt
 | exit id=>exact h2
 | ret=>exact h2
end Go.Nw
