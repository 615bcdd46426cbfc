/- The drawn orders of a region: what the text's order comes to, every order comes to. The abstract part. -/
import Derived.Test.YtojneiildpnpiaaNwStep
set_option linter.all false
namespace Go.Nw
variable [Cfg]
inductive Pre (ops:Array Oper):Nat->Nat->Prop
 | edge {j:Nat} {o:Oper} {e:Edge} (ho:ops[j]?=some o) (he:e∈o.after) (hb:Region.binds .any e=true):Pre ops e.on j
 | trans {i j k:Nat} (a:Pre ops i j) (b:Pre ops j k):Pre ops i k
theorem j05 {α:Type} (n:Nat) (f:Nat->α):d13 n f=f n:=by cases n <;> rfl
theorem d7p {ops:Array Oper} {n:Nat} {o:Oper} (ho:ops[n]?=some o) {ms:List Nat} (hms:∀ k m i,k<n->ms[n - 1 - k]?=some m->m.testBit i=true->Pre ops i k) :
  ∀ (es:List Edge),(∀ e∈es,e∈o.after/\(e.on<n\/Region.binds .any e=false))->∀ i,(b63 n ms es).testBit i=true->Pre ops i n
 | [],_,i,h=>by simp [b63] at h
 | e :: r,he,i,h=>by
  have ih:=d7p ho hms r (fun e h=>he e (List.mem_cons_of_mem _ h)) i
  unfold b63 at h
  split at h
  ·rename_i hb
   obtain ⟨h1,h2⟩:=he e List.mem_cons_self
   have hlt:e.on<n:=h2.resolve_right (by simp [hb])
   have hedge:Pre ops e.on n:=.edge ho h1 hb
   simp only [Nat.testBit_or,Bool.or_eq_true] at h
   rcases h with (h|h)|h
   ·exact ih h
   ·rw [Nat.testBit_two_pow] at h
    have : e.on=i:=by simpa using h
    rw [<- this]; exact hedge
   ·unfold List.getD at h
    cases hg:ms[n - 1 - e.on]? with
    | none=>rw [hg] at h; simp at h
    | some m=>rw [hg] at h; exact .trans (hms e.on m i hlt hg h) hedge
  ·exact ih h
def b7y (ops:Array Oper) (xs:List XO) (i j:Nat) (x y:XO):Prop:=Pre ops i j\/∃ fl,b4w fl x y=true/\(fl=true->∃ (k:Nat) (z:XO),i<k/\k<j/\xs[k]?=some z/\b5p z y=true)
structure DrawOk (ops:Array Oper) (xs:List XO):Prop where
 size : ops.size=xs.length
 back : ∀ (j:Nat) o,ops[j]?=some o->∀ e∈o.after,Region.binds .any e=true->e.on<j
 pairs : ∀ (i j:Nat) x y,i<j->xs[i]?=some x->xs[j]?=some y->(∀ d,x.dst=some d->y.dst≠some d) /\
  (Pre ops i j\/(∃ fl,b4w fl x y=true/\(fl=true->∃ (k:Nat) (z:XO),i<k/\k<j/\xs[k]?=some z/\b5p z y=true))\/b5j x y=true)
theorem g2o {prs:List (Nat × Nat)} {jj:Nat} {xs:List XO} {m:Nat} {y:XO}:∀ (n:Nat) (fl:Bool) (ps:List XO),(∀ k,k<n->ps[n - 1 - k]?=xs[k]?)->ps.length=n->c75 prs jj m y fl n ps=true ->
  ∀ (i:Nat) x,i<n->xs[i]?=some x->d40 x y=false/\(m.testBit i=true\/(∃ fl',b4w fl' x y=true/\(fl'=true->fl=true\/∃ (k:Nat) (z:XO),i<k/\k<n/\xs[k]?=some z/\b5p z y=true))\/(b8t x i jj∈prs/\b5j x y=true))
 | 0,_,_,_,_,_,i,_,hi,_=>by omega
 | n+1,fl,[],_,hl,_,_,_,_,_=>by simp at hl
 | n+1,fl,p :: ps,hps,hl,h,i,x,hi,hx=>by
  simp only [c75,Bool.and_eq_true,Bool.not_eq_true',Bool.or_eq_true,List.contains_iff_mem] at h
  obtain ⟨⟨h1,h2⟩,h3⟩:=h
  have hp:xs[n]?=some p:=by have:=hps n (Nat.lt_succ_self n); simpa using this.symm
  have hps':∀ k,k<n->ps[n - 1 - k]?=xs[k]?:=fun k hk=>by
   have := hps k (by omega)
   rw [show n+1 - 1 - k=(n - 1 - k)+1 by omega] at this
   simpa using this
  by_cases e:i=n
  ·subst e
   rw [hp] at hx; cases hx
   refine ⟨h1,?_⟩
   rcases h2 with (h2|h2)|h2
   ·exact .inl h2
   ·exact .inr (.inl ⟨fl,h2,fun hf=>.inl hf⟩)
   ·exact .inr (.inr h2)
  ·obtain ⟨q1,q2⟩:=g2o n (fl || b5p p y) ps hps' (by simpa using hl) h3 i x (by omega) hx
   refine ⟨q1,q2.imp (fun h=>h) fun q2=>q2.imp (fun ⟨fl',q3,q4⟩=>⟨fl',q3,fun hf=>?_⟩) fun h=>h⟩
   rcases q4 hf with q|⟨k,z,k1,k2,k3,k4⟩
   ·rcases Bool.or_eq_true_iff.1 q with q|q
    ·exact .inl q
    ·exact .inr ⟨n,p,by omega,by omega,hp,q⟩
   ·exact .inr ⟨k,z,k1,by omega,k3,k4⟩
theorem d67 {prs:List (Nat × Nat)} {ops:Array Oper} {xs:List XO}:∀ (os:List Oper) (ys:List XO) (n:Nat) (ms:List Nat) (ps:List XO),
  (∀ j,os[j]?=ops[n+j]?)->(∀ j,ys[j]?=xs[n+j]?)->(∀ k,k<n->ps[n - 1 - k]?=xs[k]?)->ps.length=n->(∀ k m i,k<n->ms[n - 1 - k]?=some m->m.testBit i=true->Pre ops i k) ->
  b8f prs n ms ps os ys=true ->
  os.length = ys.length/\(∀ (j:Nat) o,n<=j->ops[j]?=some o->∀ e∈o.after,Region.binds .any e=true->e.on<j) /\
  ∀ (i j:Nat) x y,i<j->n<=j->xs[i]?=some x->xs[j]?=some y->(∀ d,x.dst=some d->y.dst≠some d) /\
   (Pre ops i j\/(∃ fl,b4w fl x y=true/\(fl=true->∃ (k:Nat) (z:XO),i<k/\k<j/\xs[k]?=some z/\b5p z y=true))\/(b8t x i j∈prs/\b5j x y=true))
 | [],[],n,ms,ps,hos,hys,_,_,_,_ =>
  ⟨rfl,fun j o hj ho=>by have:=hos (j - n); rw [show n+(j - n)=j by omega,ho] at this; simp at this,
   fun i j x y hij hj hx hy=>by have:=hys (j - n); rw [show n+(j - n)=j by omega,hy] at this; simp at this⟩
 | [],y :: ys,n,ms,ps,_,_,_,_,_,h=>by simp [b8f] at h
 | o :: os,[],n,ms,ps,_,_,_,_,_,h=>by simp [b8f] at h
 | o :: os,y :: ys,n,ms,ps,hos,hys,hps,hpl,hms,h=>by
  simp only [b8f,j05,Bool.and_eq_true,List.all_eq_true,Bool.or_eq_true,decide_eq_true_eq,Bool.not_eq_true'] at h
  obtain ⟨h1,h2,h3⟩:=h
  have ho:ops[n]?=some o:=by have:=hos 0; simpa using this.symm
  have hy:xs[n]?=some y:=by have:=hys 0; simpa using this.symm
  have hmask:=d7p ho hms o.after.toList fun e he=>⟨by simpa using he,h1 e he⟩
  obtain ⟨r1,r2,r3⟩:=d67 os ys (n+1) (b63 n ms o.after.toList :: ms) (y :: ps)
   (fun j=>by have:=hos (j+1); rw [show n+(j+1)=n+1+j by omega] at this; simpa using this)
   (fun j=>by have:=hys (j+1); rw [show n+(j+1)=n+1+j by omega] at this; simpa using this)
   (fun k hk=>by
    by_cases e:k=n
    ·subst e; simpa using hy.symm
    ·rw [show n+1 - 1 - k=(n - 1 - k)+1 by omega]; simpa using hps k (by omega))
   (by simp [hpl])
   (fun k m i hk hm hb=>by
    by_cases e:k=n
    ·subst e; simp at hm; subst hm; exact hmask i hb
    ·rw [show n+1 - 1 - k=(n - 1 - k)+1 by omega] at hm
     exact hms k m i (by omega) (by simpa using hm) hb) h3
  refine ⟨by simp [r1],fun j o' hj ho'=>?_,fun i j x z hij hj hx hz=>?_⟩
  ·by_cases e:j=n
   ·subst e
    rw [ho] at ho'; cases ho'
    intro e he hb
    exact (h1 e (by simpa using he)).resolve_right (by simp [hb])
   ·exact r2 j o' (by omega) ho'
  ·by_cases e:j=n
   ·subst e
    rw [hy] at hz; cases hz
    obtain ⟨q1,q2⟩:=g2o j false ps hps hpl h2 i x hij hx
    refine ⟨fun d hd hd'=>?_,q2.imp (hmask i) fun q2=>q2.imp (fun ⟨fl',q3,q4⟩=>⟨fl',q3,fun hf=>(q4 hf).resolve_left (by simp)⟩) fun h=>h⟩
    simp [d40,hd,hd'] at q1
   ·exact r3 i j x z hij (by omega) hx hz
theorem d68 {prs:List (Nat × Nat)} {ops:Array Oper} {xs:List XO} (h:L4f prs ops xs=true):ops.size=xs.length/\(∀ (j:Nat) o,ops[j]?=some o->∀ e∈o.after,Region.binds .any e=true->e.on<j) /\
  ∀ (i j:Nat) x y,i<j->xs[i]?=some x->xs[j]?=some y->(∀ d,x.dst=some d->y.dst≠some d) /\
   (Pre ops i j\/(∃ fl,b4w fl x y=true/\(fl=true->∃ (k:Nat) (z:XO),i<k/\k<j/\xs[k]?=some z/\b5p z y=true))\/(b8t x i j∈prs/\b5j x y=true)):=by
 have h1:b8f prs 0 [] [] ops.toList xs=true:=h
 obtain ⟨r1,r2,r3⟩:=d67 ops.toList xs 0 [] [] (fun j=>by rw [Array.getElem?_toList,Nat.zero_add]) (fun j=>by rw [Nat.zero_add]) (fun k hk=>by omega) rfl (fun k m i hk=>by omega) h1
 exact ⟨by simpa using r1,fun j o ho=>r2 j o (by omega) ho,fun i j x y hij hx hy=>r3 i j x y hij (by omega) hx hy⟩
theorem d69 {prs:List (Nat × Nat)} {ops:Array Oper} {xs:List XO} (h:L4f prs ops xs=true):DrawOk ops xs:=by
 obtain ⟨r1,r2,r3⟩:=d68 h
 exact ⟨r1,r2,fun i j x y hij hx hy=>⟨(r3 i j x y hij hx hy).1,(r3 i j x y hij hx hy).2.imp (fun h=>h) fun h=>h.imp (fun h=>h) fun h=>h.2⟩⟩
def c1q (ops:Array Oper) (xs:List XO) (S:Nat->St):Prop:=∀ (j k:Nat) (x y:XO) (id:Nat),xs[j]?=some x->xs[k]?=some y->x.op.look=true->y.op.isA=true ->
 (j < k->¬ b7y ops xs j k x y)->(k<j->¬ b7y ops xs k j y x) ->
 b2y (S j) x.guard=some true->E65 ((S j).ev x.op.lookX)=some id->(S (k+1)).h.ob id=(S k).h.ob id
theorem g1g {o:XOp} (h:o.look=true):o.isW=false:=by
 unfold XOp.look at h
 split at h <;> first|rfl|cases h
theorem g1f {o:XOp} (h:o.look=true):o.isA=false:=by
 unfold XOp.look at h
 split at h <;> first|rfl|cases h
theorem d7b {prs:List (Nat × Nat)} {ops:Array Oper} {xs:List XO} {S:Nat->St} (hd:L4f prs ops xs=true) (h:Dyn xs prs S):c1q ops xs S:=fun j k x y id hx hy h1 h2 l1 l2 h3 h4=>by
 obtain ⟨_,_,r3⟩:=d68 hd
 rcases Nat.lt_trichotomy j k with hjk|hjk|hjk
 ·rcases (r3 j k x y hjk hx hy).2 with q|q|q
  ·exact absurd (.inl q) (l1 hjk)
  ·exact absurd (.inr q) (l1 hjk)
  ·have := q.1
   unfold b8t at this
   rw [if_pos h1] at this
   exact h j k x y id this hx hy h1 h2 h3 h4
 ·subst hjk
  rw [hx] at hy; cases hy
  rw [g1f h1] at h2; cases h2
 ·rcases (r3 k j y x hjk hy hx).2 with q|q|q
  ·exact absurd (.inl q) (l2 hjk)
  ·exact absurd (.inr q) (l2 hjk)
  ·have := q.1
   have hy':y.op.look=false:=by
    cases hl:y.op.look with
    | false=>rfl
    | true=>rw [g1f hl] at h2; cases h2
   unfold b8t at this
   rw [if_neg (by simp [hy'])] at this
   exact h j k x y id this hx hy h1 h2 h3 h4
theorem g9y {ops:Array Oper} {xs:List XO} {S:Nat->St} (h:L4f [] ops xs=true):c1q ops xs S:=d7b h fun j k x y id hm=>by cases hm
def c1p (O:Orac) (xs:List XO) (S:Nat->St):Prop:=∀ (i:Nat) x,xs[i]?=some x->wpOp O x (S i) (·=S (i+1))
theorem d6s {O:Orac} {K:St->Prop}:∀ {xs:List XO} {s:St},b3i O xs K s->∃ S,S 0=s/\c1p O xs S/\K (S xs.length)
 | [],s,h=>⟨fun _=>s,rfl,fun i x hx=>by simp at hx,h⟩
 | x :: xs,s,h=>by
  obtain ⟨s',h1,h2⟩:=c5b h
  obtain ⟨S,h3,h4,h5⟩:=d6s h2
  refine ⟨fun|0=>s|i+1=>S i,rfl,fun i y hy=>?_,h5⟩
  cases i with
  | zero=>simp at hy; subst hy; show wpOp O x s (·=S 0); rw [h3]; exact h1
  | succ i=>exact h4 i y (by simpa using hy)
section
variable {O:Orac} {xs:List XO} {S:Nat->St} (hS:c1p O xs S)
 (htop : ∀ k,(S 0).h.nx<=k->¬ (S 0).h.us k) (hfr:∀ k,¬ (S 0).h.us k->(S 0).h.ob k=none)
include hS
def Tch (xs:List XO) (S:Nat->St) (i id:Nat):Prop:=∃ x,xs[i]?=some x/\x.touch (S i) id/\(S i).h.us id
theorem b9q {i:Nat} (hi:i<xs.length):Fr (fun _=>True) (S i).h (S (i+1)).h:=by
 obtain ⟨x,hx⟩:∃ x,xs[i]?=some x:=⟨_,gG9 hi⟩
 obtain ⟨_,h⟩:=b7v (hS i x hx)
 exact ⟨h.nx,h.us,fun id h1=>absurd trivial h1,h.no⟩
theorem b3r {i j:Nat} (hij:i<=j) (hj:j<=xs.length):(S i).h.nx<=(S j).h.nx:=by
 induction j with
 | zero=>have:i=0:=by omega
         subst this; exact Nat.le_refl _
 | succ j ih =>
  by_cases e:i=j+1
  ·subst e; exact Nat.le_refl _
  ·exact Nat.le_trans (ih (by omega) (by omega)) (b9q hS (by omega)).nx
theorem d1f {i:Nat} (hi:i<=xs.length) (id:Nat):(S i).h.us id ↔ (S 0).h.us id\/((S 0).h.nx<=id/\id<(S i).h.nx):=by
 induction i with
 | zero=>exact ⟨.inl,fun h=>h.elim (fun h=>h) fun h=>by omega⟩
 | succ i ih =>
  have h1:=b9q hS (show i<xs.length by omega)
  have h0:=b3r hS (Nat.zero_le i) (by omega)
  rw [h1.us,ih (by omega)]
  have := h1.nx
  constructor
  ·rintro ((h|h)|h)
   ·exact .inl h
   ·exact .inr (by omega)
   ·exact .inr (by omega)
  ·rintro (h|h)
   ·exact .inl (.inl h)
   ·by_cases e:id<(S i).h.nx
    ·exact .inl (.inr (by omega))
    ·exact .inr (by omega)
include htop in
theorem b8b {i:Nat} (hi:i<=xs.length) {id:Nat} (h:(S i).h.us id):id<(S i).h.nx:=by
 rcases (d1f hS hi id).1 h with h|h
 ·have h0:=b3r hS (Nat.zero_le i) hi
  rcases Nat.lt_or_ge id (S 0).h.nx with h'|h'
  ·omega
  ·exact absurd h (htop id h')
 ·exact h.2
theorem d1c {i id:Nat} (hi:i<xs.length) (hid:¬ ((S i).h.nx<=id/\id<(S (i+1)).h.nx)) (h:(S i).h.ob id=none):(S (i+1)).h.ob id=none :=
 (b9q hS hi).no id hid h
include hfr in
theorem c2a {i:Nat} (hi:i<=xs.length) {id:Nat} (h:¬ (S i).h.us id):(S i).h.ob id=none:=by
 induction i with
 | zero=>exact hfr id h
 | succ i ih =>
  have h1:=b9q hS (show i<xs.length by omega)
  rw [h1.us,not_or] at h
  exact d1c hS (by omega) h.2 (ih (by omega) h.1)
include hfr in
theorem d6r {i:Nat} (hi:i<xs.length):Fr (Tch xs S i) (S i).h (S (i+1)).h:=by
 obtain ⟨x,hx⟩:∃ x,xs[i]?=some x:=⟨_,gG9 hi⟩
 obtain ⟨_,h⟩:=b7v (hS i x hx)
 refine ⟨h.nx,h.us,fun id h1 h2=>?_,h.no⟩
 by_cases hu:(S i).h.us id
 ·exact h.ob id (fun ht=>h1 ⟨x,hx,ht,hu⟩) h2
 ·have h0:=c2a hS hfr (by omega) hu
  rw [h0,d1c hS hi h2 h0]
include hfr in
theorem d1d {i j:Nat} (hij:i<=j) (hj:j<=xs.length) {id:Nat} (hid:id<(S i).h.nx) (ht:∀ k,i<=k->k<j->¬ Tch xs S k id):(S j).h.ob id=(S i).h.ob id:=by
 induction j with
 | zero=>have:i=0:=by omega
         subst this; rfl
 | succ j ih =>
  by_cases e:i=j+1
  ·subst e; rfl
  ·have := b3r hS (show i<=j by omega) (by omega)
   rw [(d6r hS hfr (show j<xs.length by omega)).ob id (ht j (by omega) (by omega)) (by omega),ih (by omega) (by omega) fun k h1 h2=>ht k h1 (by omega)]
theorem g89 {i j:Nat} (hij:i<=j) (hj:j<=xs.length) {id:Nat} (hid:id<(S i).h.nx) (h0:(S i).h.ob id=none):(S j).h.ob id=none:=by
 induction j with
 | zero=>have:i=0:=by omega
         subst this; exact h0
 | succ j ih =>
  by_cases e:i=j+1
  ·subst e; exact h0
  ·have := b3r hS (show i<=j by omega) (by omega)
   exact d1c hS (by omega) (by omega) (ih (by omega) (by omega))
end
theorem l5s {O:Orac} {x:XO} {s s':St} (hs:x.op.still=true) (h:wpOp O x s (·=s')):s'.h=s.h:=by
 obtain ⟨dst,guard,op⟩:=x
 have put:∀ r,(s.put dst r).h=s.h:=fun r=>by cases dst <;> rfl
 have eq:∀ r h',eff op s.ev s.h=some (r,h')->h'=s.h:=fun r h' he=>by
  have tf:∀ n id i o,s.ev (.tf n) = .rp id i o->False:=fun n id i o hh=>by simp only [St.ev] at hh; cases hv:s.t n <;> rw [hv] at hh <;> cases hh
  have tf2:∀ n id i o,s.ev (.tf n) = .rs id i o->False:=fun n id i o hh=>by simp only [St.ev] at hh; cases hv:s.t n <;> rw [hv] at hh <;> cases hh
  cases op <;> simp only [XOp.still,fT9] at hs <;> simp only [eff] at he
  case load a n x=>cases x <;> simp only [fT9] at hs; repeat' first|(cases he; done)|(cases he; rfl)|(exact (tf _ _ _ _ (by assumption)).elim)|(simp only [bE9,mE9] at he; obtain ⟨_,_,he⟩:=he)|(split at he)
  case nilck x=>cases x <;> simp only [fT9] at hs; repeat' first|(cases he; done)|(cases he; rfl)|(exact (tf _ _ _ _ (by assumption)).elim)|(simp only [bE9,mE9] at he; obtain ⟨_,_,he⟩:=he)|(split at he)
  case fldA o x=>cases x <;> simp only [fT9] at hs; repeat' first|(cases he; done)|(cases he; rfl)|(exact (tf _ _ _ _ (by assumption)).elim)|(simp only [bE9,mE9] at he; obtain ⟨_,_,he⟩:=he)|(split at he)
  case ixA o x i=>cases x <;> simp only [fT9] at hs; repeat' first|(cases he; done)|(cases he; rfl)|(exact (tf2 _ _ _ _ (by assumption)).elim)|(simp only [bE9,mE9] at he; obtain ⟨_,_,he⟩:=he)|(split at he)
  all_goals repeat' first|(cases he; done)|(cases he; rfl)|(simp only [bE9,mE9] at he; obtain ⟨_,_,he⟩:=he)|(split at he)
 unfold wpOp at h
 cases op <;> simp only [XOp.still,fT9] at hs <;> simp only at h <;> split at h <;> first
  | exact h.elim
  | (rw [<- h]; exact put _)
  | (obtain ⟨r,h',he,h⟩:=h; rw [<- h]; exact eq r h' he)
  | (obtain ⟨_,h⟩:=h; rw [<- h])
theorem l5t {x:XO} {s:St} (hs:x.op.still=true) {id:Nat} (h:x.touch s id):False:=by
 obtain ⟨dst,guard,op⟩:=x
 have := h.2
 cases op <;> simp only [XOp.still,fT9] at hs <;> simp only [XOp.touch] at this
theorem j7s {O:Orac} {x:XO} {s s':St} (hs:x.op.look=true) (h:wpOp O x s (·=s')):s'.h=s.h:=by
 obtain ⟨dst,guard,op⟩:=x
 have put:∀ r,(s.put dst r).h=s.h:=fun r=>by cases dst <;> rfl
 have eq:∀ r h',eff op s.ev s.h=some (r,h')->h'=s.h:=fun r h' he=>by
  cases op <;> simp only [XOp.look,fT9] at hs <;> simp only [eff] at he
  all_goals repeat' first|(cases he; done)|(cases he; rfl)|(simp only [bE9,mE9] at he; obtain ⟨_,_,he⟩:=he)|(obtain ⟨_,_,he⟩:=he)|(split at he)
 unfold wpOp at h
 cases op <;> simp only [XOp.look,fT9] at hs <;> simp only at h <;> split at h <;> first
  | exact h.elim
  | (rw [<- h]; exact put _)
  | (obtain ⟨r,h',he,h⟩:=h; rw [<- h]; exact eq r h' he)
  | (obtain ⟨_,h⟩:=h; rw [<- h])
theorem l38 {O:Orac} {x:XO} {s s':St} (hs:x.op.quiet=true) (h:wpOp O x s (·=s')):s'.h=s.h:=by
 unfold XOp.quiet at hs
 rcases Bool.or_eq_true_iff.1 hs with hs|hs
 ·exact l5s hs h
 ·exact j7s hs h
theorem b7m {x:XO} {s:St} (hs:x.op.quiet=true) {id:Nat} (h:x.touch s id):False:=by
 unfold XOp.quiet at hs
 rcases Bool.or_eq_true_iff.1 hs with hs|hs
 ·exact l5t hs h
 ·obtain ⟨dst,guard,op⟩:=x
  have := h.2
  cases op <;> simp only [XOp.look,fT9] at hs <;> simp only [XOp.touch] at this
end Go.Nw
