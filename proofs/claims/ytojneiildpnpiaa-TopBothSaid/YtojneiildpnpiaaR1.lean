/- A piece of code in a round of a range over a function: the abstract machine is sound there too. Printed by mkround.py. -/
import Derived.Test.YtojneiildpnpiaaNwFunc
import Derived.TacticsIn
import Derived.OrdersIn
import Derived.RangeFuncCalls
import Derived.Sort.LoopGhostIn
import Derived.RangeFuncFrom
import Derived.RangeFuncOwn
import Derived.RangeFuncNested
import Derived.RangeFuncLeaves
import Derived.Test.YtojneiildpnpiaaNwModel
import Derived.Test.YtojneiildpnpiaaNwWcall
set_option linter.all false
namespace Go.Nw
open Go.RowKit
def RF (l:Nat):Fence:=Fence.wide.inRound l
theorem K8y {P:Program} {row:String} {args:Array Value} {w:World} {R:Value->World->Prop} (l n:Nat) (h:Rows P row args w R):RowsIn (RF l) n P row args w R:=fun c cs _=>by
 obtain ⟨v,w',h1,h2⟩:=h c cs
 exact ⟨v,w',h1,stepsIn_wide.2 h2⟩
theorem K7j {P:Program} (l n:Nat) {o:Oper} (hd:∀ c,o.op≠.defer c) {a:Act} {w:World} {next:Act->World->Prop} {Q:Exit->Act->World->Prop} (h:o.wp P a w next Q):o.wpIn (RF l) n P a w next Q:=by
 unfold Oper.wp at h
 unfold Oper.wpIn
 refine ⟨fun _ _=>trivial,?_⟩
 rw [show (RF l).round=some l from rfl,Oper.semAt_some l _ _ hd]
 generalize (execOp a.eval o).run P w=r at h ⊢
 cases r with
 | ok nx w' =>
  cases nx with
  | value v=>exact h
  | skip=>exact h
  | defer d=>exact h
  | enter f args=>exact ⟨(fun hh=>by cases hh),callsIn_wide.2 h⟩
  | row row args=>exact ⟨(fun hh=>by cases hh),K8y l _ h⟩
  | _=>exact absurd h (fun h=>h)
 | halt k w' =>
  cases k with
  | panic v=>exact h
  | _=>exact absurd h (fun h=>h)
theorem K6x {P:Program} (l:Nat) {n:Nat} {ops:Array Oper} {Q:Exit->Act->World->Prop} (hQ:¬ LetsOut Q):∀ {os:List Oper},(∀ o∈os,∀ c,o.op≠.defer c)->∀ (a:Act) (w:World),wpList P ops Q os a w->wpListIn (RF l) n P ops Q os a w
 | [],_,a,w,h=>h
 | o :: os,hd,a,w,h=>by
  unfold wpList at h
  unfold wpListIn
  split
  ·rename_i hw
   rw [if_pos hw] at h
   rcases h with h|h
   ·exact Oper.wpIn_mono (fun a w h=>K6x l hQ (fun o ho=>hd o (List.mem_cons_of_mem _ ho)) a w h) (K7j l n (hd o (List.mem_cons_self ..)) h)
   ·exact absurd h.2 hQ
  ·rename_i hw
   rw [if_neg hw] at h
   exact ⟨fun _ _=>trivial,K6x l hQ (fun o ho=>hd o (List.mem_cons_of_mem _ ho)) _ _ h⟩
theorem K6e {P:Program} (l:Nat) {n:Nat} {ops:Array Oper} {Q:Exit->Act->World->Prop} (hQ:¬ LetsOut Q) (hd:∀ (i:Nat) o,ops[i]?=some o->∀ c,o.op≠.defer c):∀ (fuel:Nat) (listed:Array Bool) (a:Act) (w:World),Go.wpAny P .any ops Q fuel listed a w->wpAnyIn (RF l) n P .any ops Q fuel listed a w
 | 0,listed,a,w,h=>h
 | fuel+1,listed,a,w,h=>by
  unfold Go.wpAny at h
  unfold wpAnyIn
  refine ⟨h.1,fun i hi=>?_⟩
  have h2:=h.2 i hi
  unfold Go.wpOp at h2
  unfold wpOpIn
  cases ho:ops[i]? with
  | none=>rw [ho] at h2; exact K6e l hQ hd fuel _ _ _ h2
  | some o =>
   rw [ho] at h2
   dsimp only at h2 ⊢
   split
   ·rename_i hw
    rw [if_pos hw] at h2
    rcases h2 with h2|h2
    ·exact Oper.wpIn_mono (fun a w h=>K6e l hQ hd fuel _ a w h) (K7j l n (hd i o ho) h2)
    ·exact absurd h2.2 hQ
   ·rename_i hw
    rw [if_neg hw] at h2
    exact ⟨fun _ _=>trivial,K6e l hQ hd fuel _ _ _ h2⟩
variable [Cfg]
section
variable {P:Program} {O:Orac} {G:Beg}
theorem K8d {bf:List Nat} {n:Nat} {ops:Array Oper} {o:Oper} {x:XO} (h:b9r P bf n ops o=some x):∀ c,o.op≠.defer c:=fun c e=>by
 unfold b9r at h
 rw [e] at h
 simp [b1e] at h
theorem K6y {bf:List Nat} {n:Nat} {ops:Array Oper}:∀ {os:List Oper} {xs:List XO},os.mapM (b9r P bf n ops)=some xs->∀ o∈os,∀ c,o.op≠.defer c
 | [],xs,h,o,ho=>by simp at ho
 | o :: os,xs,h,o',ho=>by
  simp only [List.mapM_cons,Option.bind_eq_bind,Option.bind_eq_some_iff,Option.pure_def,Option.some.injEq] at h
  obtain ⟨x,hx,xs',hxs',rfl⟩:=h
  rcases List.mem_cons.1 ho with rfl|ho
  ·exact K8d hx
  ·exact K6y hxs' o' ho
theorem K8u {bf:List Nat} {n:Nat} {ops:Array Oper} {xs:List XO} (h:ops.toList.mapM (b9r P bf n ops)=some xs):∀ (i:Nat) o,ops[i]?=some o->∀ c,o.op≠.defer c:=fun i o ho =>
 K6y h o (List.mem_of_getElem? (by simpa using ho))
theorem K7i (n:Nat) (Q:XPost) (P:Program):¬ LetsOut (fun e a' w'=>∃ e' s',ExitM e' e/\Q e' s'/\SimA P G n s' a' w'):=by
 rintro ⟨a,w,e',s',h,_⟩
 cases h
section
variable (hO:∀ f as r frag,O f as r frag->b0n P f as r frag) (hW:∀ f as h r h',O.w f as h r h'->(b0n P).w f as h r h')
include hO hW
theorem K7c (l:Nat) {bf:List Nat} {fz:List (Nat × Nat)} {n:Nat}:∀ (c:Code) {xc:XCode},b4m P bf fz n c=some xc->∀ {Q:XPost} {s:St} {a:Act} {w:World},wp O xc Q s->SimA P G n s a w ->
  c.wpIn (RF l) 1 P (fun e a' w'=>∃ e' s',ExitM e' e/\Q e' s'/\SimA P G n s' a' w') a w:=by
 intro c
 induction c with
 | skip=>intro xc hc Q s a w hw hA; cases hc; exact wpIn_skip ⟨.normal,s,.normal,hw,hA⟩
 | region id ops draw =>
  intro xc hc Q s a w hw hA
  simp only [b4m,Option.bind_eq_some_iff] at hc
  obtain ⟨xs,hxs,hc⟩:=hc
  obtain ⟨C,hCe,rfl⟩:=Option.map_eq_some_iff.1 hc
  have hcs:=l4f hCe
  have hC:isR C:=by
   rcases hcs with ⟨_,rfl⟩|⟨_,_,⟨rfl,_⟩|⟨_,rfl,_⟩⟩ <;> exact trivial
  clear hCe
  have hgh:∃ s1,SimA P G n s1 a w/\wp O C (nq fun s2=>∀ a' w',SimA P G n s2 a' w'->∃ s3,SimA P G n s3 a' w'/\Q .normal s3) s1:=by
   generalize (fz.filter fun p=>p.1 == 2 * id).length=m1 at hw
   generalize (fz.filter fun p=>p.1 == 2 * id+1).length=m2 at hw
   induction m1 generalizing s with
   | zero =>
    refine ⟨s,hA,?_⟩
    have key:∀ (m2:Nat) (Q':St->Prop) (s:St),wp O (b86 m2 C) (nq Q') s->wp O C (nq fun s2=>∀ a' w',SimA P G n s2 a' w'->∃ s3,SimA P G n s3 a' w'/\Q' s3) s:=by
     intro m2
     induction m2 with
     | zero =>
      intro Q' s hw
      refine c9t C (fun e s2 hq=>?_) hw
      cases e with
      | normal=>exact fun a' w' hs=>⟨s2,hs,hq⟩
      | exit i=>exact hq
      | ret=>exact hq
     | succ m2 ih =>
      intro Q' s hw
      have := ih (fun s2=>∃ s3,b6u s2 s3/\Q' s3) s (c9t (b86 m2 C) (fun e s2 h=>by
       cases e with
       | normal=>exact h
       | exit i=>exact h
       | ret=>exact h) hw)
      refine c9t C (fun e s2 hq=>?_) this
      cases e with
      | normal =>
       intro a' w' hs
       obtain ⟨s3,h1,s4,h2,h3⟩:=hq a' w' hs
       exact ⟨s4,d8b h2 h1,h3⟩
      | exit i=>exact hq
      | ret=>exact hq
    exact key m2 (Q .normal) s (g3v hC m2 hw)
   | succ m ih =>
    obtain ⟨s1,h1,h2⟩:=hw
    exact ih (d8b h1 hA) h2
  clear hw hA
  obtain ⟨s,hA,hw'⟩:=hgh
  have hq:∀ s' a' w',SimA P G n s' a' w'->(fun s2=>∀ a' w',SimA P G n s2 a' w'->∃ s3,SimA P G n s3 a' w'/\Q .normal s3) s'->(fun e a' w'=>∃ e' s',ExitM e' e/\Q e' s'/\SimA P G n s' a' w') Exit.normal a' w':=fun s' a' w' hA' hk=>by
   obtain ⟨s3,h1,h2⟩:=hk a' w' hA'
   exact ⟨.normal,s3,.normal,h2,h1⟩
  rcases hcs with ⟨rfl,rfl⟩|⟨rfl,hfl,hd⟩
  ·exact wpIn_region_list (K6x l (K7i (G:=G) n Q P) (K6y hxs) _ _ (g08 hO hW hxs hA hw' hq))
  ·refine wpIn_region_any hfl ?_
   obtain ⟨S,h0,hS,hY,hD,hK⟩:∃ S,S 0=s/\c1p O xs S/\c1q ops xs S/\DrawOk ops xs/\(∀ a' w',SimA P G n (S xs.length) a' w'->∃ s3,SimA P G n s3 a' w'/\Q .normal s3):=by
    rcases hd with ⟨rfl,hst⟩|⟨prs,rfl,hst⟩
    ·obtain ⟨S,h0,hS,hK⟩:=d6s (show b3i O xs _ s from hw')
     exact ⟨S,h0,hS,g9y hst,d69 hst,hK⟩
    ·obtain ⟨S,h0,hS,hY,hK⟩:=hw'
     exact ⟨S,h0,hS,d7b hst hY,d69 hst,hK⟩
   refine K6e l (K7i (G:=G) n Q P) (K8u hxs) _ _ _ _ (g52 hO hW hxs hD hS hY (by rw [h0]; exact hA.top) (fun k hk=>by rw [h0] at hk ⊢; exact hA.b.fresh hk) (fun a' w' hA'=>hq _ a' w' hA' hK) ops.size _ s a _ (by simp) ⟨List.range ops.size,by simp,fun j hj=>?_⟩ ?_ hA.b.drew ?_)
   ·simp only [List.mem_range]
    rcases Nat.lt_or_ge j ops.size with h|h
    ·exact h
    ·simp [Array.getD,Nat.not_lt.2 h] at hj
   ·have e:(fun j=>(Array.replicate ops.size false).getD j false=true)=fun _=>False:=funext fun j=>by
     simp [Array.getD]
    rw [e,<- h0]; exact ED.start
   ·intro j o hj
    simp [Array.getD] at hj
 | seq x y ihx ihy =>
  intro xc hc Q s a w hw hA
  simp only [b4m,Option.bind_eq_some_iff,Option.map_eq_some_iff] at hc
  obtain ⟨cx,hcx,cy,hcy,rfl⟩:=hc
  refine wpIn_seq (wpIn_mono (ihx hcx hw hA) ?_)
  rintro e a' w' ⟨e',s',hm,hq,hA'⟩
  cases hm with
  | normal=>exact ihy hcy hq hA'
  | exit id=>exact ⟨_,s',.exit id,hq,hA'⟩
  | ret=>exact ⟨_,s',.ret,hq,hA'⟩
 | cond c x y ihx ihy =>
  intro xc hc Q s a w hw hA
  simp only [b4m,Option.bind_eq_some_iff,Option.map_eq_some_iff] at hc
  obtain ⟨z,hz,cx,hcx,cy,hcy,rfl⟩:=hc
  obtain ⟨t,ht,h1,h2⟩:=hw
  obtain ⟨S,loc,u0,hs⟩:=hA.b.ex
  have hev:=c2n (fun g cs hg=>u0.carry _ _ (hA.b.glob g cs hg)) hs c z hz
  rw [ht] at hev
  have hb:a.eval c = .bool t:=by generalize a.eval c=q at hev; cases hev; rfl
  exact wpIn_cond_split hb (fun e=>ihx hcx (h1 e) hA) (fun e=>ihy hcy (h2 e) hA)
 | block id x ih =>
  intro xc hc Q s a w hw hA
  simp only [b4m,Option.map_eq_some_iff] at hc
  obtain ⟨cx,hcx,rfl⟩:=hc
  refine wpIn_block (wpIn_mono (ih hcx hw hA) ?_)
  rintro e a' w' ⟨e',s',hm,hq,hA'⟩
  cases hm with
  | normal=>exact ⟨_,s',.normal,hq,hA'⟩
  | exit i =>
   simp only [XPost.block] at hq
   simp only [Exit.inBlock]
   split
   ·rename_i h; rw [if_pos h] at hq; exact ⟨_,s',.normal,hq,hA'⟩
   ·rename_i h; rw [if_neg h] at hq; exact ⟨_,s',.exit i,hq,hA'⟩
  | ret=>exact ⟨_,s',.ret,hq,hA'⟩
 | loop x ih =>
  intro xc hc Q s a w hw hA
  simp only [b4m,Option.map_eq_some_iff] at hc
  obtain ⟨cx,hcx,rfl⟩:=hc
  obtain ⟨I,m,hI,hround⟩:=hw
  refine wpIn_loop_ghost (fun k a' w'=>∃ s',I s'/\m s'=k/\SimA P G n s' a' w') (m s) ⟨s,hI,rfl,hA⟩ ?_
  rintro k a' w' ⟨s',hI',rfl,hA'⟩
  refine wpIn_mono (ih hcx (hround s' hI') hA') ?_
  rintro e a2 w2 ⟨e',s2,hm,hq,hA2⟩
  cases hm with
  | normal=>exact ⟨m s2,hq.2,s2,hq.1,rfl,hA2⟩
  | exit i=>exact ⟨_,s2,.exit i,hq,hA2⟩
  | ret=>exact ⟨_,s2,.ret,hq,hA2⟩
 | exit id=>intro xc hc Q s a w hw hA; cases hc; exact wpIn_exit ⟨_,s,.exit id,hw,hA⟩
 | ret=>intro xc hc Q s a w hw hA; cases hc; exact wpIn_ret ⟨_,s,.ret,hw,hA⟩
 | _=>intro xc hc; simp [b4m] at hc
end
end
end Go.Nw
namespace Go.Nw
open Go.RowKit
def b67 (h:Heap):Prop:=∀ id es,h.ob id≠some (0,es)
section
variable {P:Program} {W W':World} {row:Option Nat} (hg:W.grownBy W' row) (hr:∀ r,row=some r->∃ o:Obj,W.heap[r]?=some o/\o.isCells=false)
include hg hr
theorem K7b {b:Nat} {c:Array Value} {t:TypeId} {f:Nat × Nat} (h:W.heap[b]?=some (.cells c t f)):W'.heap[b]?=some (.cells c t f):=by
 rw [grownBy_keeps_cells hg hr h rfl]; exact h
theorem L2w {b n:Nat} (h:P1d W b=some n):P1d W' b=some n:=by
 unfold P1d at h ⊢
 cases ho:W.heap[b]? with
 | none=>rw [ho] at h; cases h
 | some o =>
  rw [ho] at h
  cases o with
  | cells c t f=>rw [K7b hg hr ho]; exact h
  | _=>cases h
theorem SimV.grow {S:Nat->Prop} {h:Heap} {loc:Loc} {x:AV} {v:Value} (hx:SimV P W S h loc x v):SimV P W' S h loc x v:=by
 induction hx with
 | v x=>exact .v x
 | dead x=>exact .dead x
 | agg cs vs hl h1 _ ih=>exact .agg cs vs hl h1 ih
 | tup cs vs hl _ ih=>exact .tup cs vs hl ih
 | fsNil sz=>exact .fsNil sz
 | fsE sz a cap=>exact .fsE sz a cap
 | fs sz es b o cap hcap hb0 hsz val hc h1 _ ih=>exact .fs sz es b o cap hcap hb0 hsz val (fun i j c hh=>cell_kept (hc i j c hh) hg hr) h1 ih
 | fp cs off b o hb0 val hc h1 _ ih=>exact .fp cs off b o hb0 val (fun j c hh=>cell_kept (hc j c hh) hg hr) h1 ih
 | fn f as cs id fn0 vs us hf hn0 hbd hg0 hl _ hl' _ ih ih'=>exact .fn f as cs id fn0 vs us hf hn0 hbd hg0 hl ih hl' ih'
 | rs id lo len x hid hs0 hx =>
  refine .rs id lo len x hid hs0 fun sz es he=>?_
  obtain ⟨h0',cap,n,h1,h2,h2',h3,h4⟩:=hx sz es he
  exact ⟨h0',cap,n,h1,h2,h2',L2w hg hr h3,h4⟩
 | rp id i off x hid hs0 hx=>exact .rp id i off x hid hs0 hx
 | mp id x hid hs0 hx=>exact .mp id x hid hs0 hx
theorem HSim.grow {B:Nat} {S:Nat->Prop} {loc:Loc} {h:Heap} (H:HSim P B S loc h W) (hm:b67 h):HSim P B S loc h W':=by
 have hsz:W.heap.size<=W'.heap.size:=hg.size
 refine ⟨fun id sz es ho=>?_,H.inj,H.notS,H.own,H.fresh,fun b hb=>Nat.lt_of_lt_of_le (H.lt b hb) hsz⟩
 have oa:=H.obs id sz es ho
 refine ⟨fun hz=>?_,fun hz he=>?_,Nat.lt_of_lt_of_le oa.b hsz⟩
 ·obtain ⟨⟨arr,ty,hb,hf⟩,hl',val,hv⟩:=oa.o hz
  exact ⟨⟨arr,ty,K7b hg hr hb,hf⟩,hl',val,fun i j c hh=>⟨cell_kept (hv i j c hh).1 hg hr,(hv i j c hh).2.1,SimV.grow hg hr (hv i j c hh).2.2⟩⟩
 ·subst hz
  exact absurd ho (hm id es)
theorem P4g {B:Nat} (hB:∀ r,row=some r->B<=r) (hBW:B<=W.heap.size):Below B W W':=by
 refine ⟨hg.os,hg.tape,hg.output,hg.size,fun k hk=>hg.block k (by omega) fun e=>?_⟩
 have := hB k e.symm
 omega
theorem Upd.grow {B:Nat} {S0 S:Nat->Prop} {loc0 loc:Loc} {h0 h:Heap} {w0:World} (u:Upd P B S0 loc0 h0 w0 S loc h W) (hm:b67 h) (hle:B<=w0.heap.size) (hB:∀ r,row=some r->w0.heap.size<=r):Upd P B S0 loc0 h0 w0 S loc h W':=by
 have hsz:=u.below.size
 refine ⟨fun x v hx=>SimV.grow hg hr (u.carry x v hx),HSim.grow hg hr u.hs hm,u.sub,u.sup,u.below.trans (P4g hg hr (fun r e=>Nat.le_trans hle (hB r e)) (by omega)),fun k hk hn=>?_⟩
 obtain ⟨h1,h2⟩:=u.rest k hk hn
 exact ⟨(hg.block k (by omega) fun e=>by have:=hB k e.symm; omega).trans h1,h2⟩
variable [Cfg]
theorem SimA.grow {G:Beg} {n:Nat} {s:St} {a:Act} (hA:SimA P G n s a W) (hm:b67 s.h) (hB:∀ r,row=some r->G.w.heap.size<=r):SimA P G n s a W':=by
 obtain ⟨⟨⟨S,loc,u,hs⟩,h1,h2,h3,h4⟩,ht⟩:=hA
 exact ⟨⟨⟨S,loc,Upd.grow hg hr u hm h2 hB,fun t=>SimV.grow hg hr (hs t)⟩,h1,h2,h3,h4⟩,ht⟩
end
end Go.Nw
namespace Go.Nw
open Go.RowKit
section
variable {P:Program}
theorem K8w {α:Type} {g:Operand} {p:Tmp} {assign body:Code} {Q:Exit->Act->World->Prop} {a:Act} {w:World} {gf:FuncId} {lb:Array Value} (hg:a.eval g = .func (.func gf) #[] lb)
  (eg : ∀ args w,(callFunc gf args).run P w = .ok (.enter gf args) w) {encs:α->Value} {Kp:World->World->Prop} {S Sp:List α->Prop} {N:Nat} (hseq:SeqStopsK Fence.wide 2 P gf lb (fun x=>#[encs x]) Kp S Sp N w)
  (hKt : ∀ {A B C:World},Kp A B->Kp B C->Kp A C) (hKb:∀ (W:World) (l:Nat) (o:Obj),w.heap.size<=l->Kp W (W.putObj l o))
  (I : List α->World->Prop) (hI:OwnFrom w.heap.size I) (h0:I [] w)
  (hround : ∀ (l:Nat) (pre:List α) (x:α) (W:World),l=w.heap.size+1->pre.length<N->I pre W->assign.wpIn (RF l) 1 P (Exit.then (fun a₁ w₁=>KeepsFrom w.heap.size W w₁/\Kp W w₁ /\
   ∀ (r r':Loop),w₁.heap[l]?=some (.loop r)->body.wpIn (RF l) 1 P (fun e _ W3=>e = .normal/\KeepsFrom w.heap.size (w₁.putObj l (.loop r')) W3/\Kp (w₁.putObj l (.loop r')) W3/\I (pre++[x]) W3) a₁ (w₁.putObj l (.loop r'))) (fun _ _ _=>False))
   { tmps:=a.tmps.setIfInBounds p (encs x),defers:=[] } W)
  (hdone : ∀ (D:Nat) (xs:List α) (W:World),D=w.heap.size->S xs->I xs W->W.heap[D]?=some (.deferred (some []))->Q .normal { a with defers:={ target:=.collected D,args:=#[] } :: a.defers } W) :
  (Code.rangeFunc g #[p] assign body).wpIn Fence.wide 3 P Q a w:=by
 refine wpIn_rangeFunc fun fn _=>?_
 generalize hl0:w.heap.size+1=l0
 let rec0:LoopState->Loop:=fun st=>{ state:=st,pending:=none,fn,tmps:=a.tmps,params:=#[p],assign,body,defers:=w.heap.size }
 generalize hW1:(w.alloc (.deferred (some []))).alloc (.loop (rec0 .ready))=W1
 have hs1:W1.heap.size=w.heap.size+2:=by rw [<- hW1]; simp
 have hL1:W1.heap[l0]?=some (.loop (rec0 .ready)):=by
  have := c6j (w.alloc (.deferred (some []))) (.loop (rec0 .ready))
  rw [World.size_alloc,hl0,hW1] at this; exact this
 have hK1:W1.heap[w.heap.size]?=some (.deferred (some [])):=by
  rw [<- hW1,b6c _ _ (by simp)]; exact c6j w _
 have hb1:Below w.heap.size w W1:=by
  rw [<- hW1]; exact ((Below.refl _ w).alloc (Nat.le_refl _) _).alloc (by simp) _
 refine ⟨l0,[{ target:=.collected w.heap.size,args:=#[] }],W1,{ target:=.fn (.func gf) lb,args:=#[.func (.yield l0) #[] #[]] },W1,gf,#[.func (.yield l0) #[] #[]]++lb,W1,?_,?_,fun _ _=>trivial,?_,fun _=>by omega,?_⟩
 ·rw [<- hW1,<- hl0]; exact run_enterLoop_outer _ _ _ _ _
 ·simp only [resolve,hg]
  simp [go_sem]
 ·simp [invoke,go_sem,eg]
 ·refine (hseq l0 (fun pre W=>I pre W/\W.heap[l0]?=some (.loop (rec0 .ready))/\W.heap[w.heap.size]?=some (.deferred (some []))) (fun _ _=>False) W1 hb1
   (fun s A B row hs hg' hr=>?_) (fun _ _ _ _ hs _ _=>hs) (fun pre x W hJ hlen=>?_) ⟨?_,hL1,hK1⟩).mono ?_
  ·obtain ⟨h1,h2,h3⟩:=hs
   refine ⟨hI s A B row h1 hg' fun r e=>?_,?_,?_⟩
   ·obtain ⟨h4,o,h5,h6⟩:=hr r e
    exact ⟨by omega,o,h5,Obj.not_cells_of_walk h6⟩
   ·rw [grownBy_keeps hg' (fun r e=>(hr r e).2) h2 rfl]; exact h2
   ·rw [grownBy_keeps hg' (fun r e=>(hr r e).2) h3 rfl]; exact h3
  ·obtain ⟨h1,h2,h3⟩:=hJ
   have hy:=run_yield (P:=P) (args:=#[encs x]) h2 (by rfl)
   have et:((rec0 .ready).params.zip #[encs x]).foldl (fun tmps (t,a)=>tmps.setIfInBounds t a) (rec0 .ready).tmps=a.tmps.setIfInBounds p (encs x):=by simp [rec0]
   rw [et] at hy
   refine ⟨fn,_,assign,body,hy,roundIn_of_wpIn trivial (wpIn_mono (hround l0 pre x W hl0.symm hlen h1) ?_)⟩
   intro e a₁ w₁ hq
   cases e with
   | normal =>
    obtain ⟨k1,k2,hb⟩:=hq
    have h4:=k1.same l0 _ (by omega) h2 rfl
    have hlt:=(Array.getElem?_eq_some_iff.1 h4).1
    refine ⟨_,run_beginRound h4 rfl,wpIn_mono (hb _ _ h4) ?_⟩
    rintro e a2 W3 ⟨rfl,k3,k4,hi3⟩
    have h5:=k3.same l0 _ (by omega) (World.putObj_heap_same hlt) rfl
    have h6:=k3.same w.heap.size _ (Nat.le_refl _) ((World.putObj_heap_other (by omega)).trans (k1.same _ _ (Nat.le_refl _) h3 rfl)) rfl
    refine ⟨_,_,run_endRound none h5,.inl ⟨rfl,⟨hI.putObj _ hi3 (by omega) h5 rfl,World.putObj_heap_same (Array.getElem?_eq_some_iff.1 h5).1,(World.putObj_heap_other (by omega)).trans h6⟩,hKt k2 (hKt (hKt (hKb _ _ _ (by omega)) k4) (hKb _ _ _ (by omega)))⟩⟩
   | _=>exact hq
  ·rw [<- hW1]; exact hI.alloc _ (hI.alloc _ h0)
  ·rintro e W2 ⟨⟨v,rfl⟩,⟨xs,hS,hi,h2,h3⟩|⟨_,_,hf⟩⟩
   ·refine ⟨none,_,run_endLoop (P:=P) h2 (by simp [rec0]),hdone _ xs _ rfl hS (hI.putObj _ hi (by omega) h2 rfl) ((World.putObj_heap_other (by omega)).trans h3)⟩
   ·exact hf.elim
end
end Go.Nw
namespace Go.Nw
open Go.RowKit
variable [Cfg]
section
variable {P:Program} {O:Orac} {G:Beg}
def Beg.at (G:Beg) (S:Nat->Prop) (loc:Loc) (h:Heap) (w:World) (ds:List Deferred):Beg:=⟨S,loc,h,w,G.B,ds⟩
structure Scal (P:Program) where
 av : AV
 v : Value
 ok : ∀ (w:World) (S:Nat->Prop) (h:Heap) (loc:Loc),SimV P w S h loc av v
def K6d {α:Type} (P:Program) (enc:α->Scal P) (f:String) (cs:List AV) (xs:List α):Prop:=∀ (id:FuncId) (fn:Func),P.funcs[id]?=some fn->fn.name=f->∀ (w:World) (S:Nat->Prop) (us:Array Value),(∀ b,S b->b<w.heap.size)->r7j P w S ->
 us.size = cs.length->(∀ (i:Nat) c,cs[i]?=some c->SimV P w S Heap.empty (fun _=>(0,0)) c (us.getD i undef)) ->
 SeqStopsK Fence.wide 2 P id us (fun x=>#[(enc x).v]) (fun W W'=>∀ b,S b->W'.heap[b]?=W.heap[b]?) (fun l=>l=xs) (fun _=>True) xs.length w
theorem K6l {n:Nat} {s':St} {a':Act} {W W':World} {S:Nat->Prop} {loc:Loc} {h:Heap} (u:Upd P G.B G.S G.loc G.h G.w S loc h W) (hg:b9b P G.w G.S G.h G.loc) (hle:G.B<=G.w.heap.size) {ds:List Deferred} (hA:SimA P (G.at S loc h W ds) n s' a' W'):SimA P { G with ds:=ds } n s' a' W':=by
 obtain ⟨⟨⟨S',loc',u',hs⟩,_,_,h3,h4⟩,ht⟩:=hA
 exact ⟨⟨⟨S',loc',u.trans u',hs⟩,hg,hle,h3,h4⟩,ht⟩
theorem K6k {n:Nat} {s:St} {a:Act} {w:World} (hA:SimA P G n s a w):∃ S loc,Upd P G.B G.S G.loc G.h G.w S loc s.h w/\(∀ t,SimV P w S s.h loc (s.t t) (a.tmps.getD t undef))/\∀ ds,SimA P (G.at S loc s.h w ds) n s { a with defers:=ds } w:=by
 obtain ⟨⟨⟨S,loc,u,hs⟩,h1,h2,h3,h4⟩,ht⟩:=hA
 exact ⟨S,loc,u,hs,fun ds=>⟨⟨⟨S,loc,.refl u.hs,hs⟩,fun g cs hg=>u.carry _ _ (h1 g cs hg),Nat.le_trans h2 u.below.size,rfl,h4⟩,ht⟩⟩
theorem K7k {B:Nat} {S:Nat->Prop} {loc:Loc} {h:Heap} {w:World} (H:HSim P B S loc h w) (hm:b67 h) {id:Nat} (hi:(h.ob id).isSome):∃ c t f,w.heap[(loc id).1]?=some (.cells c t f):=by
 obtain ⟨⟨sz,es⟩,ho⟩:=Option.isSome_iff_exists.1 hi
 by_cases hz:sz=0
 ·subst hz; exact absurd ho (hm id es)
 ·obtain ⟨⟨arr,ty,hb,_⟩,_⟩:=(H.obs id sz es ho).o hz
  exact ⟨arr,ty,_,hb⟩
theorem K7e {n:Nat} {s s':St} {a':Act} {W W':World} {N:Nat} {S:Nat->Prop} {loc:Loc} {ds:List Deferred} (hA:SimA P (G.at S loc s.h W ds) n s' a' W') (H:HSim P G.B S loc s.h W) (hm:b67 s.h):KeepsFrom N W W'/\∀ b,S b->W'.heap[b]?=W.heap[b]?:=by
 obtain ⟨⟨⟨S',loc',u,_⟩,_⟩,_⟩:=hA
 refine ⟨⟨u.below.size,fun k o _ hk ho=>?_⟩,fun b hb=>?_⟩
 ·have hlt:k<W.heap.size:=(Array.getElem?_eq_some_iff.1 hk).1
  rw [(u.rest k hlt fun id hi e=>?_).1]; exact hk
  obtain ⟨c,t,f,hc⟩:=K7k H hm hi
  have e:(loc id).1=k:=e
  rw [e,hk] at hc; cases hc; cases ho
 ·exact (u.rest b (H.lt b hb) fun id hi e=>H.notS id hi (by have e:(loc id).1=b:=e; rw [e]; exact hb)).1
section
variable (hO:∀ f as r frag,O f as r frag->b0n P f as r frag) (hW:∀ f as h r h',O.w f as h r h'->(b0n P).w f as h r h')
include hO hW
theorem K8x {α:Type} {bf:List Nat} {fz:List (Nat × Nat)} {n:Nat} {g:Operand} {p:Tmp} {assign body:Code} {z:X} {asg bd:XCode} (hz:b1f P g=some z) (hp:p<n) (ha:b4m P bf fz n assign=some asg) (hb:b4m P bf fz n body=some bd)
  {s : St} {a:Act} {w:World} (hA:SimA P G n s a w) {f:String} {cs:List AV} (hf:s.ev z = .fn f [] cs) (hcs:∀ c∈cs,Frz c) {enc:α->Scal P} {xs:List α} (hseq:K6d P enc f cs xs)
  (J : List α->Heap->Prop) (hJm:∀ k h,J k h->b67 h) (hJ0:J [] s.h)
  (hround : ∀ pre x h,pre.length<xs.length->J pre h->wp O asg (fun e s1=>e = .normal/\b67 s1.h/\wp O bd (fun e s2=>e = .normal/\J (pre++[x]) s2.h) s1) { t:=upd s.t p (enc x).av,h:=h })
  {Q : Exit->Act->World->Prop} (hq:∀ (D:Nat) (h:Heap) (W:World),J xs h->SimA P G n { t:=s.t,h:=h } a W->D=w.heap.size->W.heap[D]?=some (.deferred (some []))->Q .normal { a with defers:={ target:=.collected D,args:=#[] } :: a.defers } W) :
  (Code.rangeFunc g #[p] assign body).wp P Q a w:=by
 obtain ⟨S,loc,u,hs,hA0'⟩:=K6k hA
 have ea:({ a with defers:=G.ds }:Act)=a:=by rw [<- hA.b.defers]
 have hA0:=hA0' G.ds
 rw [ea] at hA0
 have hgl:b9b P w S s.h loc:=hA0.b.glob
 have hH:=u.hs
 have hev:=c2n hgl hs g z hz
 rw [hf] at hev
 generalize hgv:a.eval g=gv at hev
 cases hev with
 | fn _ _ _ id fn0 vs us hfn hnm hbd hng hl hc hl' hc' =>
 have evs:vs=#[]:=Array.eq_empty_of_size_eq_zero hl
 subst evs
 obtain ⟨c0,hc0⟩:=Option.isSome_iff_exists.1 hbd
 have eg:∀ args w,(callFunc id args).run P w = .ok (.enter id args) w:=fun args w=>by
  simp [callFunc,hfn,hng,hc0,mark]
 have hsq:=hseq id fn0 hfn hnm w S us hH.lt (j10 hH.lt hgl) hl' (fun i c hic=>SimV.frz (fun _ _=>rfl) (fun _ h=>h) (hc' i c hic) (hcs c (List.mem_of_getElem? hic)))
 refine (wpIn_wide (n:=3)).1 (K8w hgv eg hsq (fun h1 h2 b hb=>(h2 b hb).trans (h1 b hb)) (fun W l o hl b hb=>World.putObj_heap_other (by have:=hH.lt b hb; omega)) (fun pre W=>∃ h,J pre h/\SimA P (G.at S loc s.h w G.ds) n { t:=s.t,h:=h } a W) ?_ ⟨s.h,hJ0,hA0⟩ ?_ ?_)
 ·rintro pre A B row ⟨h,hj,hsm⟩ hg hr
  exact ⟨h,hj,SimA.grow hg (fun r e=>(hr r e).2) hsm (hJm _ _ hj) (fun r e=>(hr r e).1)⟩
 ·rintro l pre x W hl hlen ⟨h,hj,hsm⟩
  obtain ⟨S1,loc1,u1,hs1,hA1'⟩:=K6k hsm
  have hA1:=hA1' []
  have hB:=SimB.step hA1.b (d:=some p) (fun k e=>by cases e; exact hp) (.refl u1.hs) hs1 (.refl u1.hs) ((enc x).ok W S1 h loc1)
  have hA2:SimA P ((G.at S loc s.h w G.ds).at S1 loc1 h W []) n { t:=upd s.t p (enc x).av,h:=h } { tmps:=a.tmps.setIfInBounds p (enc x).v,defers:=[] } W:=⟨hB,hA1.top⟩
  refine wpIn_mono (K7c hO hW l assign ha (hround pre x h hlen hj) hA2) ?_
  rintro e a1 w1 ⟨e',s1,hm,⟨rfl,hn1,hwb⟩,hA3⟩
  cases hm
  have k1:=K7e (N:=w.heap.size) hA3 u1.hs (hJm _ _ hj)
  refine ⟨k1.1,fun b hb=>k1.2 b (u1.sub b hb),fun r r' hr=>?_⟩
  have hA4:=K6l u1 hA0.b.glob hA0.b.le hA3
  have hA5:=SimA.grow (grownBy_putObj' w1 l (.loop r')) (fun r2 e=>by cases e; exact ⟨_,hr,rfl⟩) hA4 hn1 (fun r2 e=>by cases e; show w.heap.size<=l; omega)
  obtain ⟨S2,loc2,u2,hs2,hA6'⟩:=K6k hA5
  have ea1:({ a1 with defers:=[] }:Act)=a1:=by
   have e:a1.defers=[]:=hA5.b.defers
   cases a1; simp only at e; rw [e]
  have hA6:=hA6' []
  rw [ea1] at hA6
  refine wpIn_mono (K7c hO hW l body hb hwb hA6) ?_
  rintro e a2 w3 ⟨e',s2,hm,⟨rfl,hj2⟩,hA7⟩
  cases hm
  have k2:=K7e (N:=w.heap.size) hA7 u2.hs hn1
  refine ⟨rfl,k2.1,fun b hb=>k2.2 b (u2.sub b hb),s2.h,hj2,?_⟩
  obtain ⟨⟨⟨S3,loc3,u3,_⟩,g3,l3,_,_⟩,t3⟩:=K6l u2 hA0.b.glob hA0.b.le hA7
  exact ⟨⟨⟨S3,loc3,u3,fun t=>u3.carry _ _ (hs t)⟩,g3,l3,hA0.b.defers,hA0.b.size⟩,t3⟩
 ·rintro D ys W hD rfl ⟨h,hj,hsm⟩ hk
  exact hq D h W hj (K6l u hA.b.glob hA.b.le hsm) hD hk
end
end
end Go.Nw
namespace Go.Nw
open Go.RowKit
def N2y {α:Type} (P:Program) (g:FuncId) (lb:Array Value) (encs:α->Value) (xs:List α) (S:Nat->Prop) (w:World):Prop :=
 ∀ (l:Nat) (J:List α->(Nat->Prop)->World->Prop) (W:World) (own0:Nat->Prop),Below w.heap.size w W ->
  (∀ s own A B row,J s own A->A.grownBy B row->(∀ r,row=some r->W.heap.size<=r/\∃ o:Obj,A.heap[r]?=some o/\o.isWalk=true)->J s own B) ->
  (∀ s own A k,J s own A->own k->k<A.heap.size)->(∀ s own A k,J s own A->S k->¬ own k) ->
  (∀ pre x own W1,J pre own W1->pre.length<xs.length->YieldAt Fence.wide 1 P l #[encs x] W1 fun e W'=>e = .returned (.bool true)/\∃ own',J (pre++[x]) own' W'/\W1.heap.size<=W'.heap.size/\∀ k,k<W1.heap.size->¬ own k->W'.heap[k]?=W1.heap[k]?/\¬ own' k) ->
  J [] own0 W ->
  CallsIn Fence.wide 2 P g (#[.func (.yield l) #[] #[]]++lb) W fun e W'=>(∃ v,e = .returned v)/\∃ own',J xs own' W'
section
variable {P:Program}
theorem N7f {α:Type} {g:Operand} {p:Tmp} {assign body:Code} {Q:Exit->Act->World->Prop} {a:Act} {w:World} {gf:FuncId} {lb:Array Value} (hg:a.eval g = .func (.func gf) #[] lb)
  (eg : ∀ args w,(callFunc gf args).run P w = .ok (.enter gf args) w) {encs:α->Value} {S:Nat->Prop} {xs:List α} (hseq:N2y P gf lb encs xs S w)
  (I : List α->(Nat->Prop)->World->Prop) (hI:∀ s own A B row,I s own A->A.grownBy B row->(∀ r,row=some r->w.heap.size<=r/\∃ o:Obj,A.heap[r]?=some o/\o.isCells=false)->I s own B)
  (hIb : ∀ s own A k,I s own A->own k->k<A.heap.size) (hIS:∀ s own A k,I s own A->S k->¬ own k) {own0:Nat->Prop} (h0:I [] own0 w)
  (hround : ∀ (l:Nat) (pre:List α) (x:α) (own:Nat->Prop) (W:World),l=w.heap.size+1->pre.length<xs.length->I pre own W->(∃ r,W.heap[l]?=some (.loop r))->assign.wpIn (RF l) 1 P (Exit.then (fun a₁ w₁=>KeepsFrom w.heap.size W w₁ /\
   ∀ (r r':Loop),w₁.heap[l]?=some (.loop r)->body.wpIn (RF l) 1 P (fun e _ W3=>e = .normal/\KeepsFrom w.heap.size (w₁.putObj l (.loop r')) W3/\∃ own',I (pre++[x]) own' W3/\W.heap.size<=W3.heap.size/\∀ k,k<W.heap.size->k≠l->¬ own k->W3.heap[k]?=W.heap[k]?/\¬ own' k) a₁ (w₁.putObj l (.loop r'))) (fun _ _ _=>False))
   { tmps:=a.tmps.setIfInBounds p (encs x),defers:=[] } W)
  (hnl : ∀ s own A l r,I s own A->A.heap[l]?=some (.loop r)->¬ own l)
  (hdone : ∀ (D:Nat) (own:Nat->Prop) (W:World),D=w.heap.size->I xs own W->W.heap[D]?=some (.deferred (some []))->Q .normal { a with defers:={ target:=.collected D,args:=#[] } :: a.defers } W) :
  (Code.rangeFunc g #[p] assign body).wpIn Fence.wide 3 P Q a w:=by
 refine wpIn_rangeFunc fun fn _=>?_
 generalize hl0:w.heap.size+1=l0
 let rec0:LoopState->Loop:=fun st=>{ state:=st,pending:=none,fn,tmps:=a.tmps,params:=#[p],assign,body,defers:=w.heap.size }
 generalize hW1:(w.alloc (.deferred (some []))).alloc (.loop (rec0 .ready))=W1
 have hs1:W1.heap.size=w.heap.size+2:=by rw [<- hW1]; simp
 have hL1:W1.heap[l0]?=some (.loop (rec0 .ready)):=by
  have := c6j (w.alloc (.deferred (some []))) (.loop (rec0 .ready))
  rw [World.size_alloc,hl0,hW1] at this; exact this
 have hK1:W1.heap[w.heap.size]?=some (.deferred (some [])):=by
  rw [<- hW1,b6c _ _ (by simp)]; exact c6j w _
 have hb1:Below w.heap.size w W1:=by
  rw [<- hW1]; exact ((Below.refl _ w).alloc (Nat.le_refl _) _).alloc (by simp) _
 have hput:∀ {s own A} {r r':Loop},I s own A->A.heap[l0]?=some (.loop r)->I s own (A.putObj l0 (.loop r')):=fun {s own A r r'} hi hl =>
  hI _ _ _ _ (some l0) hi (grownBy_putObj' A l0 _) fun k e=>by cases e; exact ⟨by omega,_,hl,rfl⟩
 refine ⟨l0,[{ target:=.collected w.heap.size,args:=#[] }],W1,{ target:=.fn (.func gf) lb,args:=#[.func (.yield l0) #[] #[]] },W1,gf,#[.func (.yield l0) #[] #[]]++lb,W1,?_,?_,fun _ _=>trivial,?_,fun _=>by omega,?_⟩
 ·rw [<- hW1,<- hl0]; exact run_enterLoop_outer _ _ _ _ _
 ·simp only [resolve,hg]
  simp [go_sem]
 ·simp [invoke,go_sem,eg]
 ·refine (hseq l0 (fun pre own W=>I pre own W/\W.heap[l0]?=some (.loop (rec0 .ready))/\W.heap[w.heap.size]?=some (.deferred (some []))) W1 own0 hb1
   (fun s own A B row hs hg' hr=>?_) (fun s own A k hs=>hIb s own A k hs.1) (fun s own A k hs=>hIS s own A k hs.1) (fun pre x own W hJ hlen=>?_) ⟨?_,hL1,hK1⟩).mono ?_
  ·obtain ⟨h1,h2,h3⟩:=hs
   refine ⟨hI s own A B row h1 hg' fun r e=>?_,?_,?_⟩
   ·obtain ⟨h4,o,h5,h6⟩:=hr r e
    exact ⟨by omega,o,h5,Obj.not_cells_of_walk h6⟩
   ·rw [grownBy_keeps hg' (fun r e=>(hr r e).2) h2 rfl]; exact h2
   ·rw [grownBy_keeps hg' (fun r e=>(hr r e).2) h3 rfl]; exact h3
  ·obtain ⟨h1,h2,h3⟩:=hJ
   have hy:=run_yield (P:=P) (args:=#[encs x]) h2 (by rfl)
   have et:((rec0 .ready).params.zip #[encs x]).foldl (fun tmps (t,a)=>tmps.setIfInBounds t a) (rec0 .ready).tmps=a.tmps.setIfInBounds p (encs x):=by simp [rec0]
   rw [et] at hy
   refine ⟨fn,_,assign,body,hy,roundIn_of_wpIn trivial (wpIn_mono (hround l0 pre x own W hl0.symm hlen h1 ⟨_,h2⟩) ?_)⟩
   intro e a₁ w₁ hq
   cases e with
   | normal =>
    obtain ⟨k1,hb⟩:=hq
    have h4:=k1.same l0 _ (by omega) h2 rfl
    have hlt:=(Array.getElem?_eq_some_iff.1 h4).1
    refine ⟨_,run_beginRound h4 rfl,wpIn_mono (hb _ _ h4) ?_⟩
    rintro e a2 W3 ⟨rfl,k3,own',hi3,hsz,hfr⟩
    have h5:=k3.same l0 _ (by omega) (World.putObj_heap_same hlt) rfl
    have h6:=k3.same w.heap.size _ (Nat.le_refl _) ((World.putObj_heap_other (by omega)).trans (k1.same _ _ (Nat.le_refl _) h3 rfl)) rfl
    have h7:=(Array.getElem?_eq_some_iff.1 h5).1
    have e1:(W3.putObj l0 (.loop (rec0 .ready))).heap.size=W3.heap.size:=by simp [World.putObj]
    refine ⟨_,_,run_endRound none h5,rfl,own',⟨hput hi3 h5,World.putObj_heap_same h7,(World.putObj_heap_other (by omega)).trans h6⟩,by exact Nat.le_trans hsz (Nat.le_of_eq e1.symm),fun k hk hn=>?_⟩
    by_cases hkl:k=l0
    ·subst hkl
     exact ⟨(World.putObj_heap_same h7).trans h2.symm,hnl _ _ _ _ _ hi3 h5⟩
    ·obtain ⟨g1,g2⟩:=hfr k hk hkl hn
     exact ⟨(World.putObj_heap_other (fun e=>hkl e)).trans g1,g2⟩
   | _=>exact hq
  ·rw [<- hW1]
   refine hI _ _ _ _ none (hI _ _ _ _ none h0 (World.grownBy_alloc w _ none) (fun r e=>by cases e)) (World.grownBy_alloc _ _ none) (fun r e=>by cases e)
  ·rintro e W2 ⟨⟨v,rfl⟩,own',hi,h2,h3⟩
   refine ⟨none,_,run_endLoop (P:=P) h2 (by simp [rec0]),hdone _ own' _ rfl (hput hi h2) ((World.putObj_heap_other (by omega)).trans h3)⟩
end
variable [Cfg]
def N0p {α:Type} (P:Program) (enc:α->Scal P) (f:String) (cs:List AV) (xs:List α):Prop:=∀ (id:FuncId) (fn:Func),P.funcs[id]?=some fn->fn.name=f->∀ (w:World) (S:Nat->Prop) (us:Array Value),(∀ b,S b->b<w.heap.size)->r7j P w S ->
 us.size = cs.length->(∀ (i:Nat) c,cs[i]?=some c->SimV P w S Heap.empty (fun _=>(0,0)) c (us.getD i undef))->N2y P id us (fun x=>(enc x).v) xs S w
def N1m (loc:Loc) (h:Heap) (k:Nat):Prop:=∃ id,(h.ob id).isSome/\(loc id).1=k
theorem N63 {loc:Loc} {h:Heap} {k:Nat} (hk:¬ N1m loc h k):∀ id,(h.ob id).isSome->(loc id).1≠k:=fun id hi e=>hk ⟨id,hi,e⟩
section
variable {P:Program} {O:Orac} {G:Beg}
variable (hO:∀ f as r frag,O f as r frag->b0n P f as r frag) (hW:∀ f as h r h',O.w f as h r h'->(b0n P).w f as h r h')
include hO hW
theorem N7g {α:Type} {bf:List Nat} {fz:List (Nat × Nat)} {n:Nat} {g:Operand} {p:Tmp} {assign body:Code} {z:X} {asg bd:XCode} (hz:b1f P g=some z) (hp:p<n) (ha:b4m P bf fz n assign=some asg) (hb:b4m P bf fz n body=some bd)
  {s : St} {a:Act} {w:World} (hA:SimA P G n s a w) {f:String} {cs:List AV} (hf:s.ev z = .fn f [] cs) (hcs:∀ c∈cs,Frz c) {enc:α->Scal P} {xs:List α} (hseq:N0p P enc f cs xs)
  (J : List α->Heap->Prop) (hJm:∀ k h,J k h->b67 h) (hJ0:J [] s.h)
  (hround : ∀ pre x h,pre.length<xs.length->J pre h->wp O asg (fun e s1=>e = .normal/\b67 s1.h/\wp O bd (fun e s2=>e = .normal/\J (pre++[x]) s2.h) s1) { t:=upd s.t p (enc x).av,h:=h })
  {Q : Exit->Act->World->Prop} (hq:∀ (D:Nat) (h:Heap) (W:World),J xs h->SimA P G n { t:=s.t,h:=h } a W->D=w.heap.size->W.heap[D]?=some (.deferred (some []))->Q .normal { a with defers:={ target:=.collected D,args:=#[] } :: a.defers } W) :
  (Code.rangeFunc g #[p] assign body).wp P Q a w:=by
 obtain ⟨S,loc,u,hs,hA0'⟩:=K6k hA
 have ea:({ a with defers:=G.ds }:Act)=a:=by rw [<- hA.b.defers]
 have hA0:=hA0' G.ds
 rw [ea] at hA0
 have hgl:b9b P w S s.h loc:=hA0.b.glob
 have hle:G.B<=w.heap.size:=hA0.b.le
 have hsz0:n<=a.tmps.size:=hA0.b.size
 have hH:=u.hs
 have hev:=c2n hgl hs g z hz
 rw [hf] at hev
 generalize hgv:a.eval g=gv at hev
 cases hev with
 | fn _ _ _ id fn0 vs us hfn hnm hbd hng hl hc hl' hc' =>
 have evs:vs=#[]:=Array.eq_empty_of_size_eq_zero hl
 subst evs
 obtain ⟨c0,hc0⟩:=Option.isSome_iff_exists.1 hbd
 have eg:∀ args w,(callFunc id args).run P w = .ok (.enter id args) w:=fun args w=>by
  simp [callFunc,hfn,hng,hc0,mark]
 have hsq:=hseq id fn0 hfn hnm w S us hH.lt (j10 hH.lt hgl) hl' (fun i c hic=>SimV.frz (fun _ _=>rfl) (fun _ h=>h) (hc' i c hic) (hcs c (List.mem_of_getElem? hic)))
 refine (wpIn_wide (n:=3)).1 (N7f hgv eg hsq (fun pre own W=>∃ h,J pre h/\(∀ k,h.nx<=k->¬ h.us k)/\∃ S1 loc1,Upd P G.B S loc s.h w S1 loc1 h W/\(∀ t,SimV P W S1 h loc1 (s.t t) (a.tmps.getD t undef))/\own=N1m loc1 h) ?_ ?_ ?_ (own0:=N1m loc s.h) ⟨s.h,hJ0,hA.top,S,loc,.refl hH,hs,rfl⟩ ?_ ?_ ?_)
 ·rintro pre own A B row ⟨h,hj,ht,S1,loc1,u1,hs1,rfl⟩ hg hr
  exact ⟨h,hj,ht,S1,loc1,Upd.grow hg (fun r e=>(hr r e).2) u1 (hJm _ _ hj) hle (fun r e=>(hr r e).1),fun t=>SimV.grow hg (fun r e=>(hr r e).2) (hs1 t),rfl⟩
 ·rintro pre own A k ⟨h,hj,ht,S1,loc1,u1,hs1,rfl⟩ ⟨id,hi,rfl⟩
  obtain ⟨c,t,f,hcc⟩:=K7k u1.hs (hJm _ _ hj) hi
  exact (Array.getElem?_eq_some_iff.1 hcc).1
 ·rintro pre own A k ⟨h,hj,ht,S1,loc1,u1,hs1,rfl⟩ hk ⟨id,hi,rfl⟩
  exact u1.hs.notS id hi (u1.sub _ hk)
 ·rintro l pre x own W hl hlen ⟨h,hj,ht,S1,loc1,u1,hs1,rfl⟩ ⟨r0,hr0⟩
  have hgl1:b9b P W S1 h loc1:=fun g cs hg=>u1.carry _ _ (hgl g cs hg)
  have hsz1:w.heap.size<=W.heap.size:=u1.below.size
  have hle1:G.B<=W.heap.size:=Nat.le_trans hle hsz1
  have hA1:SimA P ((G.at S loc s.h w G.ds).at S1 loc1 h W []) n { t:=s.t,h:=h } { a with defers:=[] } W:=⟨⟨⟨S1,loc1,.refl u1.hs,hs1⟩,hgl1,hle1,rfl,hsz0⟩,ht⟩
  have hB:=SimB.step hA1.b (d:=some p) (fun k e=>by cases e; exact hp) (.refl u1.hs) hs1 (.refl u1.hs) ((enc x).ok W S1 h loc1)
  have hA2:SimA P ((G.at S loc s.h w G.ds).at S1 loc1 h W []) n { t:=upd s.t p (enc x).av,h:=h } { tmps:=a.tmps.setIfInBounds p (enc x).v,defers:=[] } W:=⟨hB,hA1.top⟩
  refine wpIn_mono (K7c hO hW l assign ha (hround pre x h hlen hj) hA2) ?_
  rintro e a1 w1 ⟨e',s1,hm,⟨rfl,hn1,hwb⟩,hA3⟩
  cases hm
  have k1:=K7e (G:=G.at S loc s.h w G.ds) (s:={ t:=s.t,h:=h }) (N:=w.heap.size) hA3 u1.hs (hJm _ _ hj)
  refine ⟨k1.1,fun r r' hr=>?_⟩
  obtain ⟨⟨⟨S2,loc2,u2,hs2⟩,g2,l2,d2,z2⟩,t2⟩:=hA3
  have u2:Upd P G.B S1 loc1 h W S2 loc2 s1.h w1:=u2
  have hgrow:=grownBy_putObj' w1 l (.loop r')
  have hrow:∀ r2,some l=some r2->∃ o:Obj,w1.heap[r2]?=some o/\o.isCells=false:=fun r2 e=>by cases e; exact ⟨_,hr,rfl⟩
  have uT:Upd P G.B S loc s.h w S2 loc2 s1.h (w1.putObj l (.loop r')):=Upd.grow hgrow hrow (u1.trans u2) hn1 hle (fun r2 e=>by cases e; omega)
  have hs2':∀ t,SimV P (w1.putObj l (.loop r')) S2 s1.h loc2 (s1.t t) (a1.tmps.getD t undef):=fun t=>SimV.grow hgrow hrow (hs2 t)
  have ed:a1.defers=[]:=d2
  have ea1:({ a1 with defers:=[] }:Act)=a1:=by cases a1; simp only at ed; rw [ed]
  have hA6:SimA P ((G.at S loc s.h w G.ds).at S2 loc2 s1.h (w1.putObj l (.loop r')) []) n s1 a1 (w1.putObj l (.loop r')) :=
   ⟨⟨⟨S2,loc2,.refl uT.hs,hs2'⟩,fun g cs hg=>uT.carry _ _ (hgl g cs hg),Nat.le_trans hle uT.below.size,ed,z2⟩,t2⟩
  refine wpIn_mono (K7c hO hW l body hb hwb hA6) ?_
  rintro e a2 w3 ⟨e',s2,hm,⟨rfl,hj2⟩,hA7⟩
  cases hm
  have k2:=K7e (G:=G.at S loc s.h w G.ds) (s:=s1) (N:=w.heap.size) hA7 uT.hs hn1
  obtain ⟨⟨⟨S3,loc3,u3,hs3⟩,g3,l3,d3,z3⟩,t3⟩:=hA7
  have u3:Upd P G.B S2 loc2 s1.h (w1.putObj l (.loop r')) S3 loc3 s2.h w3:=u3
  have uE:=uT.trans u3
  have hsw:(w1.putObj l (.loop r')).heap.size=w1.heap.size:=by simp [World.putObj]
  refine ⟨rfl,k2.1,N1m loc3 s2.h,⟨s2.h,hj2,t3,S3,loc3,uE,fun t=>uE.carry _ _ (hs t),rfl⟩,?_,fun k hk hkl hn=>?_⟩
  ·have g1:=u2.below.size
   have g2:=u3.below.size
   rw [hsw] at g2
   omega
  ·obtain ⟨q1,q2⟩:=u2.rest k hk (N63 hn)
   have g1:=u2.below.size
   obtain ⟨q3,q4⟩:=u3.rest k (by rw [hsw]; omega) q2
   refine ⟨q3.trans ((World.putObj_heap_other (fun e=>hkl e)).trans q1),fun ⟨id,hi,e⟩=>q4 id hi e⟩
 ·rintro pre own A l r ⟨h,hj,ht,S1,loc1,u1,hs1,rfl⟩ hr ⟨id,hi,rfl⟩
  obtain ⟨c,t,f,hcc⟩:=K7k u1.hs (hJm _ _ hj) hi
  rw [hcc] at hr; cases hr
 ·rintro D own W rfl ⟨h,hj,ht,S1,loc1,u1,hs1,rfl⟩ hk
  refine hq _ h W hj ?_ rfl hk
  have hsm:SimA P (G.at S loc s.h w G.ds) n { t:=s.t,h:=h } a W:=⟨⟨⟨S1,loc1,u1,hs1⟩,hA0.b.glob,hA0.b.le,hA0.b.defers,hA0.b.size⟩,ht⟩
  exact K6l u hA.b.glob hA.b.le hsm
end
end Go.Nw
namespace Go.Nw
open Go.RowKit
variable [Cfg]
inductive YCode where
 | leaf (c:XCode)
 | seq (a b:YCode)
 | block (id:Nat) (a:YCode)
 | range (z:X) (p:Nat) (asg bd:XCode)
section
variable (P:Program)
def K52 (bf:List Nat) (fz:List (Nat × Nat)) (n:Nat):Code->Option YCode
 | .seq a b=>match b4m P bf fz n (.seq a b) with
  | some c=>some (.leaf c)
  | none=>(K52 bf fz n a).bind fun x=>(K52 bf fz n b).map fun y=>.seq x y
 | .block id a=>match b4m P bf fz n (.block id a) with
  | some c=>some (.leaf c)
  | none=>(K52 bf fz n a).map (.block id)
 | .rangeFunc g ps a b=>match ps.toList with
  | [p]=>if p<n then (b1f P g).bind fun z=>(b4m P bf fz n a).bind fun x=>(b4m P bf fz n b).map fun y=>.range z p x y else none
  | _=>none
 | c=>(b4m P bf fz n c).map .leaf
def wpY (O:Orac):YCode->XPost->St->Prop
 | .leaf c,Q,s=>wp O c Q s
 | .seq a b,Q,s=>wpY O a (XPost.seq (wpY O b Q) Q) s
 | .block id a,Q,s=>wpY O a (XPost.block id Q) s
 | .range z p asg bd,Q,s=>∃ (α:Type) (enc:α->Scal P) (f:String) (cs:List AV) (xs:List α) (J:List α->Heap->Prop),s.ev z = .fn f [] cs/\(∀ c∈cs,Frz c)/\(K6d P enc f cs xs\/N0p P enc f cs xs)/\(∀ k h,J k h->b67 h)/\J [] s.h /\
   (∀ pre x h,pre.length<xs.length->J pre h->wp O asg (fun e s1=>e = .normal/\b67 s1.h/\wp O bd (fun e s2=>e = .normal/\J (pre++[x]) s2.h) s1) { t:=upd s.t p (enc x).av,h:=h })/\∀ h,J xs h->Q .normal { t:=s.t,h:=h }
end
section
variable {P:Program} {O:Orac} {G:Beg}
def K5w (P:Program) (G:Beg) (n:Nat) (s:St) (a:Act) (w:World):Prop:=∃ S loc h0 w0 ds,Upd P G.B G.S G.loc G.h G.w S loc h0 w0/\SimA P (G.at S loc h0 w0 ds) n s a w /\
 (∀ d∈ds,∃ D,d={ target:=.collected D,args:=#[] }/\G.w.heap.size<=D/\D<w0.heap.size/\w0.heap[D]?=some (.deferred (some []))/\(∀ id,(h0.ob id).isSome->(loc id).1≠D))/\ds.Nodup
variable (hO:∀ f as r frag,O f as r frag->b0n P f as r frag) (hW:∀ f as h r h',O.w f as h r h'->(b0n P).w f as h r h')
include hO hW
theorem K6w {bf:List Nat} {fz:List (Nat × Nat)} {n:Nat} {c:Code} {x:XCode} (hc:b4m P bf fz n c=some x) {Q:XPost} {s:St} {a:Act} {w:World} (hw:wp O x Q s) (hA:K5w P G n s a w) :
  c.wp P (fun e a' w'=>∃ e' s',ExitM e' e/\Q e' s'/\K5w P G n s' a' w') a w:=by
 obtain ⟨S,loc,h0,w0,ds,u,hA,hd⟩:=hA
 refine wp_mono (d6v hO hW c hc hw hA) ?_
 rintro e a' w' ⟨e',s',hm,hq,hA'⟩
 exact ⟨e',s',hm,hq,S,loc,h0,w0,ds,u,hA',hd⟩
theorem L0h {bf:List Nat} {fz:List (Nat × Nat)} {n:Nat}:∀ (c:Code) {y:YCode},K52 P bf fz n c=some y->∀ {Q:XPost} {s:St} {a:Act} {w:World},wpY P O y Q s->K5w P G n s a w ->
  c.wp P (fun e a' w'=>∃ e' s',ExitM e' e/\Q e' s'/\K5w P G n s' a' w') a w:=by
 intro c
 induction c with
 | seq x y ihx ihy =>
  intro yc hc Q s a w hw hA
  simp only [K52] at hc
  cases hcc:b4m P bf fz n (.seq x y) with
  | some c=>rw [hcc] at hc; cases hc; exact K6w hO hW hcc hw hA
  | none =>
   rw [hcc] at hc
   simp only [Option.bind_eq_some_iff,Option.map_eq_some_iff] at hc
   obtain ⟨cx,hcx,cy,hcy,rfl⟩:=hc
   refine wp_seq (wp_mono (ihx hcx hw hA) ?_)
   rintro e a' w' ⟨e',s',hm,hq,hA'⟩
   cases hm with
   | normal=>exact ihy hcy hq hA'
   | exit id=>exact ⟨_,s',.exit id,hq,hA'⟩
   | ret=>exact ⟨_,s',.ret,hq,hA'⟩
 | block id x ih =>
  intro yc hc Q s a w hw hA
  simp only [K52] at hc
  cases hcc:b4m P bf fz n (.block id x) with
  | some c=>rw [hcc] at hc; cases hc; exact K6w hO hW hcc hw hA
  | none =>
   rw [hcc] at hc
   simp only [Option.map_eq_some_iff] at hc
   obtain ⟨cx,hcx,rfl⟩:=hc
   refine wp_block (wp_mono (ih hcx hw hA) ?_)
   rintro e a' w' ⟨e',s',hm,hq,hA'⟩
   cases hm with
   | normal=>exact ⟨_,s',.normal,hq,hA'⟩
   | exit i =>
    simp only [XPost.block] at hq
    simp only [Exit.inBlock]
    split
    ·rename_i h; rw [if_pos h] at hq; exact ⟨_,s',.normal,hq,hA'⟩
    ·rename_i h; rw [if_neg h] at hq; exact ⟨_,s',.exit i,hq,hA'⟩
   | ret=>exact ⟨_,s',.ret,hq,hA'⟩
 | rangeFunc g ps x y ihx ihy =>
  intro yc hc Q s a w hw hA
  simp only [K52] at hc
  split at hc
  case h_2=>cases hc
  rename_i p hps
  obtain rfl:ps=#[p]:=by rw [<- Array.toArray_toList (xs:=ps),hps]
  split at hc
  case isFalse=>cases hc
  rename_i hp
  simp only [Option.bind_eq_some_iff,Option.map_eq_some_iff] at hc
  obtain ⟨z,hz,cx,hcx,cy,hcy,rfl⟩:=hc
  obtain ⟨α,enc,f,cs,xs,J,q1,q2,q3,q4,q5,q6,q7⟩:=hw
  obtain ⟨S,loc,h0,w0,ds,u,hA,hd⟩:=hA
  have fin:∀ (D:Nat) (h:Heap) (W:World),J xs h->SimA P (G.at S loc h0 w0 ds) n { t:=s.t,h:=h } a W->D=w.heap.size->W.heap[D]?=some (.deferred (some []))->∃ e' s',ExitM e' Exit.normal/\Q e' s'/\K5w P G n s' { a with defers:={ target:=.collected D,args:=#[] } :: a.defers } W:=fun D h W hj hsm hD hk=>?_
  ·rcases q3 with q3|q3
   ·exact K8x hO hW hz hp hcx hcy hA q1 q2 q3 J q4 q5 q6 fin
   ·exact N7g hO hW hz hp hcx hcy hA q1 q2 q3 J q4 q5 q6 fin
  refine ⟨.normal,_,.normal,q7 h hj,?_⟩
  have hbase:w0.heap.size<=w.heap.size:=by
   obtain ⟨⟨⟨_,_,u',_⟩,_⟩,_⟩:=hA
   exact u'.below.size
  obtain ⟨S4,loc4,u4,_,hA4⟩:=K6k hsm
  have hads:a.defers=ds:=hsm.b.defers
  refine ⟨S4,loc4,h,W,{ target:=.collected D,args:=#[] } :: ds,u.trans u4,?_,fun d hdm=>?_,List.nodup_cons.2 ⟨fun hin=>?_,hd.2⟩⟩
  ·have := hA4 ({ target:=.collected D,args:=#[] } :: ds)
   rw [hads]; exact this
  ·rcases List.mem_cons.1 hdm with rfl|hdm
   ·refine ⟨D,rfl,by have:=u.below.size; omega,(Array.getElem?_eq_some_iff.1 hk).1,hk,fun id hi e=>?_⟩
    obtain ⟨c,t,f,hc⟩:=K7k u4.hs (q4 _ _ hj) hi
    rw [e,hk] at hc; cases hc
   ·obtain ⟨D',rfl,e1,e2,e3,e4⟩:=hd.1 d hdm
    obtain ⟨e5,e6⟩:=u4.rest D' e2 e4
    exact ⟨D',rfl,e1,Nat.lt_of_lt_of_le e2 u4.below.size,by rw [e5]; exact e3,e6⟩
  ·obtain ⟨D',e0,_,e2,_⟩:=hd.1 _ hin
   simp only [Deferred.mk.injEq,Target.collected.injEq,and_true] at e0
   omega
 | _ =>
  intro yc hc Q s a w hw hA
  simp only [K52,Option.map_eq_some_iff] at hc
  obtain ⟨x,hx,rfl⟩:=hc
  exact K6w hO hW hx hw hA
theorem K7f {fn:Func} {R:Ending->World->Prop} {n:Nat} {s:St} {a:Act} (hm:b67 s.h) (hfin:∀ W,SimA P G n s a W->∃ v,(results fn a.tmps).run P W = .ok v W/\R (.returned v) W):∀ (ds:List Deferred) (W:World),SimA P G n s a W ->
  (∀ d∈ds,∃ D,d={ target:=.collected D,args:=#[] }/\G.w.heap.size<=D/\W.heap[D]?=some (.deferred (some [])))->ds.Nodup->LeavesInM Fence.wide 3 P fn a.tmps R ds .returning W
 | [],W,hA,_,_=>hfin W hA
 | d :: ds,W,hA,hd,hnd=>by
  obtain ⟨D,rfl,e1,e2⟩:=hd d (List.mem_cons_self ..)
  have hlt:=(Array.getElem?_eq_some_iff.1 e2).1
  refine ⟨by simp,.inl ⟨D,_,rfl,run_takeDeferred e2,?_⟩⟩
  refine K7f hm hfin ds _ (SimA.grow (grownBy_putObj' W D (.deferred none)) (fun r e=>by cases e; exact ⟨_,e2,rfl⟩) hA hm (fun r e=>by cases e; exact e1)) (fun d' hd'=>?_) (List.nodup_cons.1 hnd).2
  obtain ⟨D',rfl,e3,e4⟩:=hd d' (List.mem_cons_of_mem _ hd')
  refine ⟨D',rfl,e3,?_⟩
  rw [World.putObj_heap_other fun e=>(List.nodup_cons.1 hnd).1 (by rw [<- e]; exact hd')]
  exact e4
end
section
variable {P:Program}
end
end Go.Nw
namespace Go.Nw
variable [Cfg]
section
variable {P:Program} {O:Orac} {t:Slots} {h:Heap} {Q:XExit->Slots->Heap->Prop}
def cwY (P:Program) (O:Orac) (y:YCode) (Q:XExit->Slots->Heap->Prop) (t:Slots) (h:Heap):Prop:=wpY P O y (fun e s=>Q e s.t s.h) ⟨t,h⟩
theorem K88 {c:XCode}:cwY P O (.leaf c) Q t h=cw O c Q t h:=rfl
theorem K90 {a b:YCode}:cwY P O (.seq a b) Q t h=cwY P O a (b6r (cwY P O b Q) Q) t h:=by
 have e:(XPost.seq (wpY P O b fun e s=>Q e s.t s.h) fun e s=>Q e s.t s.h)=fun e s=>b6r (cwY P O b Q) Q e s.t s.h:=by
  funext e s; cases e <;> rfl
 show wpY P O (.seq a b) _ _=_
 simp only [wpY,e]; rfl
theorem K8e {id:Nat} {a:YCode}:cwY P O (.block id a) Q t h=cwY P O a (b7l id Q) t h:=by
 have e:(XPost.block id fun e s=>Q e s.t s.h)=fun e s=>b7l id Q e s.t s.h:=by
  funext e s; cases e <;> first|rfl|(simp only [XPost.block,b7l])
 show wpY P O (.block id a) _ _=_
 simp only [wpY,e]; rfl
theorem N44 {α:Type} {z:X} {p:Nat} {asg bd:XCode} (enc:α->Scal P) {f:String} {cs:List AV} {xs:List α} (J:List α->Heap->Prop) (hz:(St.mk t h).ev z = .fn f [] cs) (hcs:∀ c∈cs,Frz c) (hs:K6d P enc f cs xs\/N0p P enc f cs xs) (hJm:∀ k h,J k h->b67 h) (hJ0:J [] h)
  (hround : ∀ pre x h,pre.length<xs.length->J pre h->cw O asg (b6r (fun t1 h1=>b67 h1/\cw O bd (b6r (fun _ h2=>J (pre++[x]) h2) (fun _ _ _=>False)) t1 h1) (fun _ _ _=>False)) (upd t p (enc x).av) h)
  (hq : ∀ h',J xs h'->Q .normal t h'):cwY P O (.range z p asg bd) Q t h:=by
 refine ⟨α,enc,f,cs,xs,J,hz,hcs,hs,hJm,hJ0,fun pre x h1 hlen hj=>?_,hq⟩
 refine c9t asg (fun e s1 hh=>?_) (hround pre x h1 hlen hj)
 cases e with
 | normal =>
  refine ⟨rfl,hh.1,c9t bd (fun e s2 hh2=>?_) hh.2⟩
  cases e with
  | normal=>exact ⟨rfl,hh2⟩
  | exit i=>exact hh2.elim
  | ret=>exact hh2.elim
 | exit i=>exact hh.elim
 | ret=>exact hh.elim
theorem N45 {α:Type} {z:X} {p:Nat} {asg bd:XCode} (enc:α->Scal P) {f:String} {cs:List AV} {xs:List α} (J:List α->Heap->Prop) (hz:(St.mk t h).ev z = .fn f [] cs) (hcs:∀ c∈cs,Frz c) (hs:N0p P enc f cs xs) (hJm:∀ k h,J k h->b67 h) (hJ0:J [] h)
  (hround : ∀ pre x h,pre.length<xs.length->J pre h->cw O asg (b6r (fun t1 h1=>b67 h1/\cw O bd (b6r (fun _ h2=>J (pre++[x]) h2) (fun _ _ _=>False)) t1 h1) (fun _ _ _=>False)) (upd t p (enc x).av) h)
  (hq : ∀ h',J xs h'->Q .normal t h'):cwY P O (.range z p asg bd) Q t h:=N44 enc J hz hcs (.inr hs) hJm hJ0 hround hq
end
end Go.Nw
namespace Go.Nw
open Go.RowKit
variable [Cfg]
section
variable {P:Program} {O:Orac}
theorem N08:∀ (c:YCode) {Q Q':XPost} (_:∀ e s,Q e s->Q' e s) {s:St},wpY P O c Q s->wpY P O c Q' s:=by
 intro c
 induction c with
 | leaf c=>intro Q Q' hq s h; exact s8m c hq h
 | seq a b iha ihb =>
  intro Q Q' hq s h
  refine iha ?_ h
  intro e s h
  cases e with
  | normal=>exact ihb hq h
  | exit id=>exact hq _ _ h
  | ret=>exact hq _ _ h
 | block id a ih =>
  intro Q Q' hq s h
  refine ih ?_ h
  intro e s h
  cases e with
  | normal=>exact hq _ _ h
  | exit i=>simp only [XPost.block] at h ⊢; split <;> rename_i hi <;> simp only [hi,if_true,if_false] at h <;> exact hq _ _ h
  | ret=>exact hq _ _ h
 | range z p asg bd =>
  intro Q Q' hq s h
  obtain ⟨α,enc,f,cs,xs,J,q1,q2,q3,q4,q5,q6,q7⟩:=h
  exact ⟨α,enc,f,cs,xs,J,q1,q2,q3,q4,q5,q6,fun h hj=>hq _ _ (q7 h hj)⟩
open Classical in
noncomputable def N0i {α:Type} (R:List α->α->Heap->Heap->Prop) (h0:Heap):List α->Heap
 | []=>h0
 | x :: r=>if hh:∃ h2,R r x (N0i R h0 r) h2 then Classical.choose hh else N0i R h0 r
theorem N7w:∀ (c:YCode) {Q:XPost} {s:St},wpY P O c Q s->∃ e s',Q e s'/\Fr (fun _=>True) s.h s'.h/\wpY P O c (fun e2 s2=>e2=e/\s2=s') s:=by
 intro c
 induction c with
 | leaf c=>intro Q s h; exact g3x c h
 | seq a b iha ihb =>
  intro Q s h
  obtain ⟨e1,s1,q1,f1,w1⟩:=iha h
  cases e1 with
  | normal =>
   obtain ⟨e,s',q,f,w⟩:=ihb q1
   refine ⟨e,s',q,f1.trans f,?_⟩
   show wpY P O a _ s
   refine N08 a ?_ w1
   rintro e2 s2 ⟨rfl,rfl⟩
   exact w
  | exit id =>
   refine ⟨.exit id,s1,q1,f1,?_⟩
   show wpY P O a _ s
   refine N08 a ?_ w1
   rintro e2 s2 ⟨rfl,rfl⟩
   exact ⟨rfl,rfl⟩
  | ret =>
   refine ⟨.ret,s1,q1,f1,?_⟩
   show wpY P O a _ s
   refine N08 a ?_ w1
   rintro e2 s2 ⟨rfl,rfl⟩
   exact ⟨rfl,rfl⟩
 | block id a ih =>
  intro Q s h
  obtain ⟨e1,s1,q1,f1,w1⟩:=ih h
  have go:∀ e,(∀ e2 s2,e2=e1/\s2=s1->XPost.block id (fun e2 s2=>e2=e/\s2=s1) e2 s2)->wpY P O (.block id a) (fun e2 s2=>e2=e/\s2=s1) s:=fun e he=>by
   show wpY P O a _ s
   exact N08 a he w1
  cases e1 with
  | normal=>exact ⟨.normal,s1,q1,f1,go _ (by rintro _ _ ⟨rfl,rfl⟩; exact ⟨rfl,rfl⟩)⟩
  | exit i =>
   by_cases hi:i=id
   ·simp only [XPost.block,hi,if_true] at q1
    exact ⟨.normal,s1,q1,f1,go _ (by rintro _ _ ⟨rfl,rfl⟩; simp only [XPost.block,hi,if_true]; exact ⟨trivial,trivial⟩)⟩
   ·simp only [XPost.block,hi,if_false] at q1
    exact ⟨.exit i,s1,q1,f1,go _ (by rintro _ _ ⟨rfl,rfl⟩; simp only [XPost.block,hi,if_false]; exact ⟨trivial,trivial⟩)⟩
  | ret=>exact ⟨.ret,s1,q1,f1,go _ (by rintro _ _ ⟨rfl,rfl⟩; exact ⟨rfl,rfl⟩)⟩
 | range z p asg bd =>
  intro Q s h
  obtain ⟨α,enc,f,cs,xs,J,q1,q2,q3,q4,q5,q6,q7⟩:=h
  let R:List α->α->Heap->Heap->Prop:=fun r x h h2=>r.length<xs.length/\J r.reverse h/\J (r.reverse++[x]) h2/\Fr (fun _=>True) h h2 /\
   wp O asg (fun e s1=>e = .normal/\b67 s1.h/\wp O bd (fun e s2=>e = .normal/\s2.h=h2) s1) { t:=upd s.t p (enc x).av,h:=h }
  have step:∀ (r:List α) (x:α) (h:Heap),r.length<xs.length->J r.reverse h->∃ h2,R r x h h2:=fun r x h hl hj=>by
   obtain ⟨e1,s1,⟨rfl,n1,b1⟩,f1,w1⟩:=g3x asg (q6 r.reverse x h (by simpa using hl) hj)
   obtain ⟨e2,s2,⟨rfl,j2⟩,f2,w2⟩:=g3x bd b1
   refine ⟨s2.h,hl,hj,j2,f1.trans f2,s8m asg ?_ w1⟩
   rintro e s ⟨rfl,rfl⟩
   refine ⟨rfl,n1,s8m bd ?_ w2⟩
   rintro e s ⟨rfl,rfl⟩
   exact ⟨rfl,rfl⟩
  let G:List α->Heap:=N0i R s.h
  have hG:∀ (r:List α) (x:α),r.length<xs.length->J r.reverse (G r)->R r x (G r) (G (x :: r)):=fun r x hl hj=>by
   have hh:=step r x (G r) hl hj
   show R r x (N0i R s.h r) (N0i R s.h (x :: r))
   simp only [N0i]
   rw [dif_pos hh]
   exact Classical.choose_spec hh
  have hpre:∀ (r:List α),r.length<=xs.length->J r.reverse (G r)/\Fr (fun _=>True) s.h (G r):=by
   intro r
   induction r with
   | nil=>intro _; exact ⟨q5,.refl _ _⟩
   | cons x r ih =>
    intro hl
    have hl':r.length<xs.length:=by simp only [List.length_cons] at hl; omega
    obtain ⟨h1,h2⟩:=ih (Nat.le_of_lt hl')
    obtain ⟨_,_,h3,h4,_⟩:=hG r x hl' h1
    exact ⟨by rw [List.reverse_cons]; exact h3,h2.trans h4⟩
  have hlast:=hpre xs.reverse (by simp)
  rw [List.reverse_reverse] at hlast
  refine ⟨.normal,{ t:=s.t,h:=G xs.reverse },q7 _ hlast.1,hlast.2,α,enc,f,cs,xs,fun pre h=>h=G pre.reverse/\J pre h,q1,q2,q3,fun k h hj=>q4 k h hj.2,⟨rfl,q5⟩,fun pre x h hl hj=>?_,fun h hj=>⟨rfl,?_⟩⟩
  ·obtain ⟨rfl,hj⟩:=hj
   obtain ⟨_,_,h3,_,h5⟩:=hG pre.reverse x (by simpa using hl) (by rw [List.reverse_reverse]; exact hj)
   rw [List.reverse_reverse] at h3
   refine s8m asg ?_ h5
   rintro e s1 ⟨rfl,n1,hb⟩
   refine ⟨rfl,n1,s8m bd ?_ hb⟩
   rintro e s2 ⟨rfl,e2⟩
   refine ⟨rfl,?_,by rw [e2]; exact h3⟩
   rw [e2,List.reverse_append]; rfl
  ·rw [hj.1]
end
section
variable {P:Program}
theorem N7h {f:String} {as:List AV} {h:Heap} {r:AV} {h':Heap} (hmo:b2k f=none) (hh:∀ (id:FuncId) (fn:Func),P.funcs[id]?=some fn->fn.name=f->∃ bf fz c y res,fn.body=some c/\K52 P bf fz (c1k fn) c=some y/\fn.results.toList.mapM (c2d P)=some res/\as.length=fn.params.size+fn.nfree /\
      wpY P (b0n P) y (fun e s'=>match e with | .exit _=>False|_=>((∃ rs,res.mapM (l18 s')=some rs/\E6z rs=r)/\s'.h=h')/\b67 s'.h) { start as with h:=h }):(b0n P).w f as h r h':=by
 have goal:∀ id fn,P.funcs[id]?=some fn->fn.name=f->B82 P id as h r h':=?_
 ·unfold b0n; simp only [hmo]; exact goal
 intro id fn hfn hname B w S loc vs H hB htop hLd hsz hv
 obtain ⟨bf,fz,c,y,res,hbody,hy,hres,hl,hw⟩:=hh id fn hfn hname
 have hA:=g3a H hB htop hLd fn hsz hl hv
 have hX:K5w P ⟨S,loc,h,w,B,[]⟩ (c1k fn) { start as with h:=h } { tmps:=vs++Array.replicate (fn.ntmps - vs.size) undef,defers:=[] } w :=
  ⟨S,loc,h,w,[],.refl H,hA,fun d hd=>(by cases hd),List.nodup_nil⟩
 refine callsIn_wide.1 (callsIn_of_wp_marks (n:=3) hfn hbody trivial (wpIn_wide.2 (wp_mono (L0h (O:=b0n P) (fun _ _ _ _ h=>h) (fun _ _ _ _ _ h=>h) c hy hw hX) ?_)) rfl)
 have fin:∀ s' (a':Act) (w':World),((∃ rs,res.mapM (l18 s')=some rs/\E6z rs=r)/\s'.h=h')->b67 s'.h->K5w P ⟨S,loc,h,w,B,[]⟩ (c1k fn) s' a' w'->LeavesInM Fence.wide 3 P fn a'.tmps (fun e w'=>∃ v S' loc',e = .returned v/\Upd P B S loc h w S' loc' h' w'/\SimV P w' S' h' loc' r v) a'.defers .returning w':=fun s' a' w' hd hm hX'=>by
  obtain ⟨S1,loc1,h0,w0,ds,u,hA',hds,hnd⟩:=hX'
  have hA2:=K6l u hA.b.glob hA.b.le hA'
  have ead:a'.defers=ds:=hA'.b.defers
  rw [ead]
  refine K7f (fun _ _ _ _ h=>h) (fun _ _ _ _ _ h=>h) hm (fun W hAW=>?_) ds w' hA2 (fun d hdm=>?_) hnd
  ·obtain ⟨S2,loc2,u2,hs⟩:=hAW.b.ex
   obtain ⟨⟨rs,hrs,rfl⟩,rfl⟩:=hd
   obtain ⟨vs',h1,h2⟩:=d4y hs hres hrs u2.hs
   exact ⟨_,by rw [g2t,Sem.run_bind,g21 _ _ _ h1]; rfl,_,S2,loc2,rfl,u2,d4j h2⟩
  ·obtain ⟨D,rfl,e1,e2,e3,e4⟩:=hds d hdm
   obtain ⟨⟨⟨_,_,u',_⟩,_⟩,_⟩:=hA'
   refine ⟨D,rfl,e1,?_⟩
   rw [(u'.rest D e2 e4).1]; exact e3
 rintro e a' w' ⟨e',s',hm,hq,hX'⟩
 cases hm with
 | normal=>exact fin s' a' w' hq.1 hq.2 hX'
 | exit id=>exact hq.elim
 | ret=>exact fin s' a' w' hq.1 hq.2 hX'
theorem N4t {f:String} {as:List AV} {h:Heap} {Post:AV->Heap->Prop} (hmo:b2k f=none) (k:Nat) {f0:Func} (bf:List Nat) (fz:List (Nat × Nat)) (hk:P.funcs[k]?=some f0) (hu:(P.funcs.toList.zipIdx.all fun p=>p.1.name != f || p.2 == k)=true)
  {c : Code} {y:YCode} {res:List XRes} (hb:f0.body=some c) (hy:K52 P bf fz (c1k f0) c=some y) (hres:f0.results.toList.mapM (c2d P)=some res) (hl:as.length=f0.params.size+f0.nfree)
  (hw : cwY P (b0n P) y (fun e t h=>d4z res Post e t h/\b67 h) (st0 as) h):b6e (b0n P) f as h Post:=by
 obtain ⟨e,s',hq,hfr,w⟩:=N7w y hw
 have go:∀ {e},(∃ rs,res.mapM (l18 s')=some rs/\Post (E6z rs) s'.h)->b67 s'.h->(∀ i,e≠.exit i) ->
   wpY P (b0n P) y (fun e2 s2=>e2=e/\s2=s') ⟨st0 as,h⟩->b6e (b0n P) f as h Post:=by
  rintro e ⟨rs,h1,h2⟩ hnm hne hw2
  refine ⟨E6z rs,s'.h,N7h hmo fun id fn hfn hn=>?_,hfr,h2⟩
  have h3:(fn,id)∈P.funcs.toList.zipIdx:=by
   rw [List.mem_zipIdx_iff_getElem?]
   simpa using hfn
  have h4:=List.all_eq_true.1 hu _ h3
  simp only [Bool.or_eq_true,bne_iff_ne,ne_eq,beq_iff_eq] at h4
  rcases h4 with h4|h4
  ·exact absurd hn h4
  ·subst h4
   rw [hk] at hfn; cases hfn
   refine ⟨bf,fz,c,y,res,hb,hy,hres,hl,N08 y ?_ hw2⟩
   rintro e2 s2 ⟨rfl,rfl⟩
   cases e2 with
   | exit i=>exact absurd rfl (hne i)
   | normal=>exact ⟨⟨⟨rs,h1,rfl⟩,rfl⟩,hnm⟩
   | ret=>exact ⟨⟨⟨rs,h1,rfl⟩,rfl⟩,hnm⟩
 cases e with
 | normal=>exact go hq.1 hq.2 (fun _=>by simp) w
 | ret=>exact go hq.1 hq.2 (fun _=>by simp) w
 | exit i=>exact hq.1.elim
end
end Go.Nw
