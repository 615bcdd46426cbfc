/- The abstract machine is sound: what it says of a function's text holds of the model's call. -/
import Derived.Test.YtojneiildpnpiaaNwCall
import Derived.Deep.LoopGhost
set_option linter.all false
namespace Go.Nw
variable [Cfg]
open Go.RowKit
structure Beg where
 S : Nat->Prop
 loc : Loc
 h : Heap
 w : World
 B : Nat
 ds : List Deferred
def b9b (P:Program) (w:World) (S:Nat->Prop) (h:Heap) (loc:Loc):Prop:=∀ g cs,Cfg.tab g=some cs->SimV P w S h loc (.fp (cs.map GC.av) 0) (.pointer (some ⟨g,0,none⟩))
theorem j7g {P:Program} {w:World} {S:Nat->Prop} {h:Heap} {loc:Loc} (hl:r7j P w S):b9b P w S h loc:=fun g cs hg=>by
 obtain ⟨h1,h2,h3⟩:=hl g cs hg
 have key:∀ (j:Nat) c,(cs.map GC.av)[j]?=some c->∃ q,cs[j]?=some q/\c=q.av:=fun j c hc=>by
  rw [List.getElem?_map] at hc
  cases hv:cs[j]? with
  | none=>simp [hv] at hc
  | some v=>rw [hv] at hc; simp at hc; exact ⟨v,rfl,hc.symm⟩
 have got:∀ (j:Nat) c,(cs.map GC.av)[j]?=some c->w.cell? ⟨g,0+j,none⟩=some ((w.cell? ⟨g,j,none⟩).getD undef)/\((w.cell? ⟨g,j,none⟩).getD undef).oneCell'=true/\SimV P w S h loc c ((w.cell? ⟨g,j,none⟩).getD undef):=fun j c hc=>by
  obtain ⟨q,hq,rfl⟩:=key j c hc
  obtain ⟨v,h4,h5,h6⟩:=h3 j q hq
  rw [Nat.zero_add,h4]
  exact ⟨rfl,h5,SimV.frz (fun _ _=>rfl) (fun _ h=>h) h6 q.frz⟩
 exact .fp _ 0 g 0 h1 (fun j=>(w.cell? ⟨g,j,none⟩).getD undef) (fun j c hc=>(got j c hc).1) (fun j c hc=>(got j c hc).2.1) (fun j c hc=>(got j c hc).2.2)
theorem j10 {P:Program} {w:World} {S:Nat->Prop} {h:Heap} {loc:Loc} (hlt:∀ b,S b->b<w.heap.size) (hg:b9b P w S h loc):r7j P w S:=fun g cs hgc=>by
 have := hg g cs hgc
 generalize hv:(Value.pointer (some ⟨g,0,none⟩))=v at this
 cases this with
 | fp _ _ b o hS val hc h1 hvv =>
  simp only [Value.pointer.injEq,iE9,Addr.mk.injEq] at hv
  obtain ⟨e1,e2,_⟩:=hv
  subst e1
  have e3:o=0:=by omega
  subst e3
  refine ⟨hS,hlt _ hS,fun j x hx=>?_⟩
  have hm:(cs.map GC.av)[j]?=some x.av:=by rw [List.getElem?_map,hx]; rfl
  exact ⟨val j,by rw [<- hc j _ hm,Nat.zero_add],h1 j _ hm,SimV.frz (fun _ _=>rfl) (fun _ h=>h) (hvv j _ hm) x.frz⟩
section
variable {P:Program} {O:Orac} (hO:∀ f as r frag,O f as r frag->b0n P f as r frag) (hW:∀ f as h r h',O.w f as h r h'->(b0n P).w f as h r h') {G:Beg}
structure SimB (P:Program) (G:Beg) (n:Nat) (s:St) (a:Act) (w:World):Prop where
 ex : ∃ S loc,Upd P G.B G.S G.loc G.h G.w S loc s.h w/\(∀ t,SimV P w S s.h loc (s.t t) (a.tmps.getD t undef))
 glob : b9b P G.w G.S G.h G.loc
 le : G.B<=G.w.heap.size
 defers : a.defers=G.ds
 size : n<=a.tmps.size
theorem u9a (a:Act) (d:Option Tmp) (v:Value) (t:Nat) (h:∀ k,d=some k->k<a.tmps.size):(a.put d v).tmps.getD t undef=if d=some t then v else a.tmps.getD t undef:=by
 cases d with
 | none=>simp [Act.put]
 | some k =>
  have hk:=h k rfl
  simp only [Act.put,iE9]
  by_cases e:k=t
  ·subst e; simp [Array.getD,hk]
  ·rw [if_neg e]
   have h1:(a.tmps.setIfInBounds k v)[t]?=a.tmps[t]?:=Array.getElem?_setIfInBounds_ne e
   simp only [Array.getD_eq_getD_getElem?,h1]
theorem l34 (a:Act) (d:Option Tmp) (v:Value):(a.put d v).defers=a.defers:=by cases d <;> rfl
theorem p35 (a:Act) (d:Option Tmp) (v:Value):(a.put d v).tmps.size=a.tmps.size:=by cases d <;> simp [Act.put]
theorem E20 (s:St) (d:Option Nat) (x:AV) (t:Nat):(s.put d x).t t=if d=some t then x else s.t t:=by
 cases d with
 | none=>simp [St.put]
 | some k=>simp [St.put,St.set,upd,eq_comm]
theorem SimB.step {n:Nat} {s:St} {a:Act} {w w':World} (hA:SimB P G n s a w) {d:Option Nat} (hd:∀ k,d=some k->k<n) {S:Nat->Prop} {loc:Loc} (u0:Upd P G.B G.S G.loc G.h G.w S loc s.h w) (hs:∀ t,SimV P w S s.h loc (s.t t) (a.tmps.getD t undef))
  {S' : Nat->Prop} {loc':Loc} {h':Heap} (u:Upd P G.B S loc s.h w S' loc' h' w') {r:AV} {v:Value} (hr:SimV P w' S' h' loc' r v) :
  SimB P G n { t:=(s.put d r).t,h:=h' } (a.put d v) w':=by
 refine ⟨⟨S',loc',u0.trans u,fun t=>?_⟩,hA.glob,hA.le,by rw [l34]; exact hA.defers,by rw [p35]; exact hA.size⟩
 rw [u9a a d v t (fun k hk=>Nat.lt_of_lt_of_le (hd k hk) hA.size)]
 simp only [E20]
 split
 ·exact hr
 ·exact u.carry _ _ (hs t)
theorem c2n {S:Nat->Prop} {loc:Loc} {w:World} {s:St} {a:Act} (hg:b9b P w S s.h loc) (hs:∀ t,SimV P w S s.h loc (s.t t) (a.tmps.getD t undef)):∀ x y,b1f P x=some y->SimV P w S s.h loc (s.ev y) (a.eval x):=by
 intro x y h
 cases x with
 | tmp t=>simp [b1f] at h; subst h; exact hs t
 | const v=>simp [b1f] at h; subst h; exact .v v
 | func f =>
  simp only [b1f,mE9] at h
  obtain ⟨name,hn,rfl⟩:=h
  unfold b6p at hn
  cases hfn:P.funcs[f]? with
  | none=>simp [hfn] at hn
  | some fn =>
   simp only [hfn,bS9] at hn
   split at hn
   ·rename_i hc
    simp at hn hc
    exact .fn name [] [] f fn #[] #[] hfn hn (by simpa using hc.1) (by simpa using hc.2) rfl (by simp) rfl (by simp)
   ·cases hn
 | global g =>
  simp only [b1f,mE9] at h
  obtain ⟨cs,hc,rfl⟩:=h
  exact hg g cs hc
theorem j1b {S:Nat->Prop} {loc:Loc} {w:World} {h:Heap} {x:AV} {v:Value} (hx:SimV P w S h loc x v):SimV P w S h loc (r7o x) v:=by
 cases x <;> simp only [r7o] <;> first|exact hx|exact .dead _
theorem j0w {S:Nat->Prop} {loc:Loc} {w:World} {s:St} {a:Act} {bf:List Nat} (hg:b9b P w S s.h loc) (hs:∀ t,SimV P w S s.h loc (s.t t) (a.tmps.getD t undef)):∀ x y,b8c P bf x=some y->SimV P w S s.h loc (s.ev y) (a.eval x):=by
 intro x y h
 cases x with
 | tmp t =>
  simp only [b8c,iE9] at h
  subst h
  split
  ·exact j1b (hs t)
  ·exact hs t
 | const v=>exact c2n hg hs _ _ h
 | func f=>exact c2n hg hs _ _ h
 | global g=>exact c2n hg hs _ _ h
theorem g9d {bf:List Nat} {n:Nat} {ops:Array Oper} {o:Oper} {xo:XO} (hc:b9r P bf n ops o=some xo) :
  ∃ op g,b1e P bf o.dst o.op=some op/\c2b n ops o.guard=some g/\(∀ k,o.dst=some k->k<n)/\xo={ dst:=o.dst,guard:=g,op }:=by
 unfold b9r at hc
 simp only [bE9] at hc
 obtain ⟨op,hop,g,hg,hc⟩:=hc
 split at hc
 ·rename_i hdst
  cases hc
  exact ⟨op,g,hop,hg,fun k hk=>by rw [hk] at hdst; simpa using hdst,rfl⟩
 ·cases hc
theorem l7g {S:Nat->Prop} {loc:Loc} {w:World} {s:St} {a:Act} {n:Nat} (hn:n<=a.tmps.size) (hs:∀ t,SimV P w S s.h loc (s.t t) (a.tmps.getD t undef)) {ops:Array Oper} {o:Oper} {g:Option (Nat × Bool)} (hg:c2b n ops o.guard=some g) {b:Bool}
  (hw : b2y s g=some b):Region.wanted o (yielded ops a.tmps)=b:=by
 unfold Region.wanted
 cases hgd:o.guard with
 | none =>
  simp [hgd,c2b] at hg; subst hg
  simpa [b2y] using hw
 | some jb =>
  obtain ⟨j,want⟩:=jb
  simp only [hgd,c2b,bE9] at hg
  obtain ⟨d,⟨o',ho',hd⟩,hg⟩:=hg
  split at hg
  ·rename_i hlt
   simp at hg; subst hg
   simp only [b2y] at hw
   have hget:a.tmps[d]?=some (a.tmps.getD d undef):=getD_some (Nat.lt_of_lt_of_le hlt hn)
   have hy:yielded ops a.tmps j=match a.tmps.getD d undef with | .bool b=>some b|_=>none:=by
    unfold yielded
    rw [ho']
    simp only [bS9,hd,hget]
    cases a.tmps.getD d undef <;> rfl
   have hsd:=hs d
   split at hw
   ·rename_i t ht
    rw [ht] at hsd
    have : a.tmps.getD d undef = .bool t:=by generalize a.tmps.getD d undef=q at hsd; cases hsd; rfl
    show (yielded ops a.tmps j == some want)=b
    rw [hy,this]
    simp at hw ⊢
    rw [<- hw]
    try (cases t <;> cases want <;> rfl)
   ·cases hw
   ·rename_i hx1 hx2
    cases hw
    show (yielded ops a.tmps j == some want)=false
    rw [hy]
    have : ∀ b,a.tmps.getD d undef≠.bool b:=fun b hb=>by
     rw [hb] at hsd
     generalize hz:s.t d=z at *
     generalize hq:Value.bool b=q at hsd
     cases hsd with
     | v=>exact hx1 b (by rw [hq])
     | dead=>exact hx2 rfl
     | rs _ _ _ _ _ hs _=>obtain ⟨_,_,e⟩:=hs; rw [e] at hq; cases hq
     | rp _ _ _ _ _ hs _=>obtain ⟨_,e⟩:=hs; rw [e] at hq; cases hq
     | mp _ _ _ hs _=>obtain ⟨_,e⟩:=hs; rw [e] at hq; cases hq
     | _=>cases hq
    split
    ·rename_i b hb; exact absurd hb (this b)
    ·simp
  ·cases hg
theorem g9c {bf:List Nat} {dst:Option Nat} {op0:Op} {op:XOp} (h:b1e P bf dst op0=some op) (hs:op.special=true) :
  (∃ e x y,op0 = .box e x/\b1f P x=some y/\op = .boxF y) \/
  (∃ fid args ats f xs,op0 = .call ⟨.value (.func fid),args,ats⟩/\b6p P fid=some f/\args.toList.mapM (b1f P)=some xs/\op=(if ((Cfg.wr f || bf.contains (2000000+fid)) && (b2k f).isNone)=true then .callw f xs else .call f xs)) \/
  (∃ t args ats xs,op0 = .call ⟨.value (.tmp t),args,ats⟩/\args.toList.mapM (b1f P)=some xs/\op=(if bf.contains 3000000=true then .callw "#v" (.t t :: xs) else .callv (.t t) xs))\/g0v op0=true:=by
 have no:∀ {o:Option XOp} {p:XOp->Prop},(∀ q,o=some q->q.special=false)->o=some op->False:=fun h1 h2=>by rw [h1 op h2] at hs; cases hs
 cases op0 with
 | box e x =>
  simp only [b1e,mE9] at h
  obtain ⟨y,hy,hop⟩:=h
  split at hop
  ·exact .inl ⟨e,x,y,rfl,hy,hop.symm⟩
  ·subst hop; simp [XOp.special] at hs
 | call c =>
  obtain ⟨callee,args,ats⟩:=c
  cases callee with
  | invoke _ _=>simp [b1e] at h
  | value f =>
   cases f with
   | tmp t=>simp only [b1e,Option.bind_eq_bind,bE9,Option.pure_def,iE9] at h; obtain ⟨xs,hxs,rfl⟩:=h; exact .inr (.inr (.inl ⟨t,args,ats,xs,rfl,hxs,rfl⟩))
   | func f=>simp only [b1e,Option.bind_eq_bind,bE9,Option.pure_def,iE9] at h; obtain ⟨name,hn,xs,hxs,rfl⟩:=h; exact .inr (.inl ⟨f,args,ats,name,xs,rfl,hn,hxs,rfl⟩)
   | _=>simp [b1e] at h
  | builtin b =>
   cases b
   case cap=>exact .inr (.inr (.inr rfl))
   case append=>exact .inr (.inr (.inr rfl))
   case copy=>exact .inr (.inr (.inr rfl))
   all_goals exfalso
   all_goals simp only [b1e,Option.bind_eq_bind] at h <;> (repeat' split at h) <;> (try simp only [bE9,mE9,Option.pure_def,iE9,reduceCtorEq] at h) <;>
    (first | (obtain ⟨_,_,rfl⟩:=h; cases hs)|(obtain ⟨_,_,_,_,_,_,h⟩:=h; split at h <;> simp only [bE9,iE9,reduceCtorEq] at h; obtain ⟨_,_,_,_,rfl⟩:=h; cases hs))
 | makeMap=>exact .inr (.inr (.inr rfl))
 | insert=>exact .inr (.inr (.inr rfl))
 | makeInterface=>exact .inr (.inr (.inr rfl))
 | panic=>exact .inr (.inr (.inr rfl))
 | lookup=>exact .inr (.inr (.inr rfl))
 | mapUpdate=>exact .inr (.inr (.inr rfl))
 | makeFunc fn first caps =>
  exfalso
  cases fn <;> simp only [b1e,Option.bind_eq_bind,bE9,Option.pure_def,iE9,reduceCtorEq] at h
  (repeat (refine h.elim fun _ h=>?_)); subst h; cases hs
 | slice t x lo hi mx=>exact .inr (.inr (.inr rfl))
 | convert sr d x=>exact .inr (.inr (.inr rfl))
 | buildSlice t len ps =>
  exfalso
  simp only [b1e,Option.bind_eq_bind] at h
  split at h
  ·simp only [bE9] at h
   obtain ⟨_,_,_,_,h⟩:=h
   split at h
   ·simp only [bE9,Option.pure_def,iE9] at h
    obtain ⟨_,_,h⟩:=h
    split at h <;> subst h <;> cases hs
   ·cases h
  ·cases h
 | _ =>
  exfalso
  simp only [b1e,Option.bind_eq_bind] at h
  (first
   | (simp only [bE9,mE9,Option.pure_def,iE9] at h; (repeat (refine h.elim fun _ h=>?_)); subst h; cases hs; done)
   | (cases h; done)
   | (split at h <;> (try (cases h; done)) <;> simp only [bE9,mE9,Option.pure_def,iE9] at h <;> (repeat (refine h.elim fun _ h=>?_)) <;>
     (first
      | (subst h; cases hs; done)
      | (split at h <;> (try (cases h; done)) <;> simp only [bE9,mE9,Option.pure_def,iE9] at h <;> (repeat (refine h.elim fun _ h=>?_)) <;> subst h <;> cases hs; done)))
   | (simp only [bE9] at h; (repeat (refine h.elim fun _ h=>?_)); split at h <;> (try (cases h; done)) <;> simp only [bE9,mE9,Option.pure_def,iE9] at h <;> (repeat (refine h.elim fun _ h=>?_)) <;> subst h <;> cases hs; done))
theorem g20 {f:FuncId} {fn:Func} (hf:P.funcs[f]?=some fn) (hb:fn.body.isSome=true) (hg:fn.name ≠ "runtime.NumGoroutine") (args:Array Value) (w:World) :
  (callFunc f args).run P w = .ok (.enter f args) w:=by
 have hb':¬ fn.body=none:=by intro h; rw [h] at hb; cases hb
 simp [callFunc,hf,hg,hb']
theorem j8m {f:FuncId} {name:String} (h:b6p P f=some name):∃ fn,P.funcs[f]?=some fn/\fn.name=name/\fn.body.isSome=true/\fn.name ≠ "runtime.NumGoroutine":=by
 unfold b6p at h
 cases hfn:P.funcs[f]? with
 | none=>simp [hfn] at h
 | some fn =>
  simp only [hfn,bS9] at h
  split at h
  ·rename_i hc
   simp at h hc
   exact ⟨fn,rfl,h,by simpa using hc.1,by simpa using hc.2⟩
  ·cases h
theorem Oper.wp_of_value {o:Oper} {a:Act} {w w':World} {K':Act->World->Prop} {Q:Exit->Act->World->Prop} {nx:Next} {v:Value} (hr:(execOp a.eval o).run P w = .ok nx w') (hn:nx = .value v\/nx = .skip/\v=undef)
  (hk : K' (a.put o.dst v) w'):o.wp P a w K' Q:=by
 unfold Oper.wp
 rw [hr]
 rcases hn with rfl|⟨rfl,rfl⟩ <;> exact hk
theorem b3j.app {S:Nat->Prop} {h:Heap} {loc:Loc} {w:World} {xs ys:List AV} {us vs:List Value} (h1:b3j P w S h loc xs us) (h2:b3j P w S h loc ys vs):b3j P w S h loc (xs++ys) (us++vs):=by
 refine ⟨by simp [h1.1,h2.1],fun i c d hc hd=>?_⟩
 by_cases hlt:i<xs.length
 ·rw [List.getElem?_append_left hlt] at hc
  rw [List.getElem?_append_left (by rw [<- h1.1]; exact hlt)] at hd
  exact h1.2 i c d hc hd
 ·rw [List.getElem?_append_right (by omega)] at hc
  rw [List.getElem?_append_right (by rw [<- h1.1]; omega),<- h1.1] at hd
  exact h2.2 _ c d hc hd
theorem b3j.of_arr {S:Nat->Prop} {h:Heap} {loc:Loc} {w:World} {xs:List AV} {vs:Array Value} (hl:vs.size=xs.length) (hc:∀ (i:Nat) c,xs[i]?=some c->SimV P w S h loc c (vs.getD i undef)):b3j P w S h loc xs vs.toList:=by
 refine ⟨by simp [hl],fun i c d hxc hd=>?_⟩
 have := hc i c hxc
 obtain ⟨_,e⟩:=J7o (arr:=vs) rfl hd
 rw [e] at this; exact this
inductive b5b:XOp->Prop
 | mk (op:XOp) (h:op.special=false):b5b op
theorem l7m {O:Orac} {d:Option Nat} {g:Option (Nat × Bool)} {op:XOp} {s:St} {K:St->Prop} (hs:op.special=false) (hw:b2y s g=some true) (hk:wpOp O { dst:=d,guard:=g,op } s K) :
  ∃ r h,eff op s.ev s.h=some (r,h)/\K { t:=(s.put d r).t,h:=h }:=by
 unfold wpOp at hk
 cases op <;> simp only [XOp.special,Bool.true_eq_false] at hs <;> simp only [hw] at hk <;> exact hk
include hO hW in
theorem g19 {bf:List Nat} {n:Nat} {ops:Array Oper} {o:Oper} {xo:XO} (hc:b9r P bf n ops o=some xo) {s:St} {a:Act} {w:World} (hA:SimB P G n s a w) {s':St} (hk:wpOp O xo s (·=s')) (hnx:∀ k,s.h.nx<=k->k<s'.h.nx->¬ s.h.us k)
  (htop : ∀ f l,xo.op = .callw f l->∀ k,s.h.nx<=k->¬ s.h.us k) {K':Act->World->Prop} {Q:Exit->Act->World->Prop} (hKK:∀ a' w',SimB P G n s' a' w'->K' a' w') :
  if Region.wanted o (yielded ops a.tmps) then o.wp P a w K' Q else K' (a.put o.dst undef) w:=by
 obtain ⟨S,loc,u0,hs⟩:=hA.ex
 have hH:=u0.hs
 have hB:G.B<=w.heap.size:=Nat.le_trans hA.le u0.below.size
 have hgl:b9b P w S s.h loc:=fun g cs hg=>u0.carry _ _ (hA.glob g cs hg)
 have hLd:=j10 hH.lt hgl
 obtain ⟨op,g,hop,hg,hd,rfl⟩:=g9d hc
 have hev:=c2n hgl hs
 cases hw:b2y s g with
 | none =>
  exfalso
  unfold wpOp at hk
  cases op <;> simp only [hw] at hk
 | some b =>
  have hwt:=l7g hA.size hs hg hw
  rw [hwt]
  cases b with
  | false =>
   have hk':s.put o.dst (.v (.tuple #[]))=s':=by
    unfold wpOp at hk
    cases op <;> simp only [hw] at hk <;> exact hk
   simp only [fT9,if_false]
   subst hk'
   have := hA.step hd u0 hs (.refl hH) (.v undef)
   refine hKK _ _ ?_
   cases hdst:o.dst <;> rw [hdst] at this <;> exact this
  | true =>
   simp only [if_true]
   cases hsp:op.special with
   | false =>
    obtain ⟨r,h',he,rfl⟩:=l7m hsp hw hk
    obtain ⟨nx,v,w',S',loc',hr,hn,u,hv⟩:=j0l hH (fun hlt=>hnx _ (Nat.le_refl _) hlt) hB hop hev (j0w hgl hs) he
    exact Oper.wp_of_value hr hn (hKK _ _ (hA.step hd u0 hs u hv))
   | true =>
    rcases g9c hop hsp with ⟨e,x,y,ho,hy,rfl⟩|⟨fid,args,ats,f,xs,ho,hf,hxs,rfl⟩|⟨t,args,ats,xs,ho,hxs,rfl⟩|hmo
    ·-- boxF
     simp only [wpOp,hw] at hk
     obtain ⟨hok,rfl⟩:=hk
     have hsv:=hev _ _ hy
     obtain ⟨hcs,hcv⟩:=c6o hsv hok
     have u:=Upd.newF hH hB (.cells (a.eval x).cells e)
     have hsame:∀ j,(w.alloc (.cells (a.eval x).cells e)).cell? ⟨w.heap.size,0+j,none⟩=(a.eval x).cells[j]?:=fun j=>by rw [Nat.zero_add,World.cell?_alloc_new]
     refine Oper.wp_of_value (v:=.pointer (some ⟨w.heap.size,0,none⟩)) (nx:=.value (.pointer (some ⟨w.heap.size,0,none⟩))) (w':=w.alloc (.cells (a.eval x).cells e)) ?_ (.inl rfl) (hKK _ _ (hA.step hd u0 hs u (r:=.fp (cellsOf (s.ev y)) 0) ?_))
     ·unfold execOp; rw [ho]
      simp [Instr.box,newVar,newRow]
     ·exact .fp _ 0 w.heap.size 0 (.inr rfl) (fun j=>(a.eval x).cells.getD j undef) (fun j c hj=>by rw [hsame]; exact (hcv j c hj).1) (fun j c hj=>(hcv j c hj).2.1) (fun j c hj=>u.carry _ _ (hcv j c hj).2.2)
    ·-- a call by name
     obtain ⟨fn,hfn,hname,hbody,hng⟩:=j8m hf
     have hl:=s3x hev hxs
     have hcall:∃ r h',({ t:=(s.put o.dst r).t,h:=h' }:St)=s'/\Calls P fid (args.toList.map a.eval).toArray w fun e w'=>∃ v S' loc',e = .returned v/\Upd P G.B S loc s.h w S' loc' h' w'/\SimV P w' S' h' loc' r v:=by
      by_cases hwr:((Cfg.wr f || bf.contains (2000000+fid)) && (b2k f).isNone)=true
      ·rw [if_pos hwr] at hk htop
       simp only [wpOp,hw] at hk
       obtain ⟨r,h',hk,_,rfl⟩:=hk
       exact ⟨r,h',rfl,g8v hW hH hLd hB (htop f xs rfl) hk (by simpa using (Bool.and_eq_true_iff.1 hwr).2) hfn hname hl⟩
      ·rw [if_neg hwr] at hk
       simp only [wpOp,hw] at hk
       obtain ⟨r,h',hk,rfl⟩:=hk
       exact ⟨r,h',rfl,d6p hO hH hLd hB hk hnx hfn hname hl⟩
     obtain ⟨r,h',rfl,hcall⟩:=hcall
     unfold Oper.wp
     have hrun:(execOp a.eval o).run P w = .ok (.enter fid (args.toList.map a.eval).toArray) w:=by
      unfold execOp; rw [ho]
      have e1:(#[]:Array Value)++args.map a.eval++#[]=(args.toList.map a.eval).toArray:=by apply Array.ext'; simp
      simp only [resolve,Deferred.ofValue,Act.eval,Sem.run_bind,Sem.run_pure,Result.andThen_ok,invoke]
      have := g20 hfn hbody hng ((#[]:Array Value)++args.map a.eval++#[]) w
      rw [e1] at this
      rw [<- this,<- e1]
     rw [hrun]
     show Calls P fid (args.toList.map a.eval).toArray w _
     refine hcall.mono ?_
     rintro e w' ⟨v,S',loc',rfl,u,hv⟩
     exact hKK _ _ (hA.step hd u0 hs u hv)
    ·-- a call by value
     by_cases hdy:bf.contains 3000000=true
     ·-- one that may write
      rw [if_pos hdy] at hk htop
      simp only [wpOp,hw] at hk
      obtain ⟨r,h',hk,_,rfl⟩:=hk
      obtain ⟨nm,fa,ca,rest,has,hmn,hwc⟩:=z93.1 (hW _ _ _ _ _ hk)
      simp only [List.map_cons,List.cons.injEq] at has
      obtain ⟨hfn,hrest⟩:=has
      have hst:=hs t
      have hfn:s.t t = .fn nm fa ca:=hfn
      rw [hfn] at hst
      generalize hval:a.tmps.getD t undef=fv at hst
      cases hst with
      | fn _ _ _ fid fn vs us hfn' hname hbody hng hvl hvc hul huc =>
       have hl:=((b3j.of_arr hvl hvc).app (s3x hev hxs)).app (b3j.of_arr hul huc)
       rw [hrest] at hl
       have hcall:=hwc fid fn hfn' hname G.B w S loc _ hH hB (htop _ _ rfl) hLd hl.arr.1 hl.arr.2
       unfold Oper.wp
       have hrun:(execOp a.eval o).run P w = .ok (.enter fid (vs.toList++args.toList.map a.eval++us.toList).toArray) w:=by
        unfold execOp; rw [ho]
        have e1:vs++args.map a.eval++us=(vs.toList++args.toList.map a.eval++us.toList).toArray:=by apply Array.ext'; simp
        have e2:a.eval (.tmp t) = .func (.func fid) vs us:=hval
        simp only [resolve,e2,Deferred.ofValue,Sem.run_bind,Sem.run_pure,Result.andThen_ok,invoke]
        rw [g20 hfn' hbody hng,e1]
       rw [hrun]
       show Calls P fid (vs.toList++args.toList.map a.eval++us.toList).toArray w _
       refine hcall.mono ?_
       rintro e w' ⟨v,S',loc',rfl,u,hv⟩
       exact hKK _ _ (hA.step hd u0 hs u hv)
     rw [if_neg hdy] at hk htop
     simp only [wpOp,hw] at hk
     obtain ⟨nm,fa,ca,hcal,hk⟩:=hk
     have hst:=hs t
     have hfn:s.t t = .fn nm fa ca:=by
      have : s.ev (.t t)=s.t t:=rfl
      rw [this] at hcal
      unfold callee at hcal
      split at hcal
      ·rename_i h; simp at hcal; obtain ⟨rfl,rfl,rfl⟩:=hcal; exact h
      ·cases hcal
     rw [hfn] at hst
     generalize hval:a.tmps.getD t undef=fv at hst
     cases hst with
     | fn _ _ _ fid fn vs us hfn' hname hbody hng hvl hvc hul huc =>
      have hl:=((b3j.of_arr hvl hvc).app (s3x hev hxs)).app (b3j.of_arr hul huc)
      obtain ⟨r,h',hk,rfl⟩:=hk
      have hcall:=d6p hO hH hLd hB hk hnx hfn' hname hl
      unfold Oper.wp
      have hrun:(execOp a.eval o).run P w = .ok (.enter fid (vs.toList++args.toList.map a.eval++us.toList).toArray) w:=by
       unfold execOp; rw [ho]
       have e1:vs++args.map a.eval++us=(vs.toList++args.toList.map a.eval++us.toList).toArray:=by apply Array.ext'; simp
       have e2:a.eval (.tmp t) = .func (.func fid) vs us:=hval
       simp only [resolve,e2,Deferred.ofValue,Sem.run_bind,Sem.run_pure,Result.andThen_ok,invoke]
       rw [g20 hfn' hbody hng,e1]
      rw [hrun]
      show Calls P fid (vs.toList++args.toList.map a.eval++us.toList).toArray w _
      refine hcall.mono ?_
      rintro e w' ⟨v,S',loc',rfl,u,hv⟩
      exact hKK _ _ (hA.step hd u0 hs u hv)
    ·-- an own map
     obtain ⟨f,xs,k,rfl,hmk,hkd,hsim⟩:=j75 hH hB hop hsp hmo hev (fun v=>rfl) (fun v=>rfl)
     simp only [wpOp,hw] at hk
     obtain ⟨r,h',hk,_,rfl⟩:=hk
     have hk':=(g2c hmk hkd).1 (hW _ _ _ _ _ hk)
     obtain ⟨nx,v,w',S',loc',hr,hn,u,hv⟩:=hsim r h' (htop f xs rfl _ (Nat.le_refl _)) hk'
     exact Oper.wp_of_value hr hn (hKK _ _ (hA.step hd u0 hs u hv))
end
end Go.Nw
