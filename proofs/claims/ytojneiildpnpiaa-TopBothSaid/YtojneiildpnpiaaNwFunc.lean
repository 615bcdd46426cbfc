/- The abstract machine is sound for calls. -/
import Derived.Test.YtojneiildpnpiaaNwCode
set_option linter.all false
namespace Go.Nw
variable [Cfg]
open Go.RowKit
section
variable {P:Program}
theorem g21 {α β:Type} (f:α->Sem β) (xs:Array α) (w:World) {vs:List β} (h:(xs.toList.mapM f).run P w = .ok vs w):(xs.mapM f).run P w = .ok vs.toArray w:=by
 rw [Array.mapM_eq_mapM_toList,map_eq_pure_bind,Sem.run_bind,h]
 rfl
def c8z (tmps:Array Value):ResultVar->Sem Value
 | .tmp t=>pure (tmps.getD t undef)
 | .cell a t=>do loadVar t (<- asAddr (tmps.getD a undef))
theorem g2t (fn:Func) (tmps:Array Value):results fn tmps=(do
  let vs <- fn.results.mapM (c8z tmps)
  pure (if h:vs.size=1 then vs[0] else .tuple vs)):=by
 unfold results
 congr 1
theorem d4y {B:Nat} {S:Nat->Prop} {loc:Loc} {s:St} {w:World} {tmps:Array Value} (hs:∀ t,SimV P w S s.h loc (s.t t) (tmps.getD t undef)):∀ {l:List ResultVar} {res:List XRes} {rs:List AV},l.mapM (c2d P)=some res->res.mapM (l18 s)=some rs->HSim P B S loc s.h w ->
  ∃ vs,(l.mapM (c8z tmps)).run P w = .ok vs w/\b3j P w S s.h loc rs vs
 | [],res,rs,h1,h2,_=>by
  simp at h1; subst h1; simp at h2; subst h2
  exact ⟨[],rfl,rfl,fun i c d h=>by simp at h⟩
 | rv :: l,res,rs,h1,h2,H=>by
  simp only [List.mapM_cons,Option.bind_eq_bind,bE9,Option.pure_def,iE9] at h1
  obtain ⟨xr,hx,res',hres',rfl⟩:=h1
  simp only [List.mapM_cons,Option.bind_eq_bind,bE9,Option.pure_def,iE9] at h2
  obtain ⟨r,hr,rs',hrs',rfl⟩:=h2
  obtain ⟨vs,h3,h4⟩:=d4y hs hres' hrs' H
  have one:∃ v,(c8z tmps rv).run P w = .ok v w/\SimV P w S s.h loc r v:=by
   cases rv with
   | tmp t =>
    simp [c2d] at hx; subst hx
    simp [l18] at hr; subst hr
    exact ⟨_,rfl,hs t⟩
   | cell a t =>
    simp only [c2d,mE9] at hx
    obtain ⟨sz,hsz,rfl⟩:=hx
    simp only [l18,mE9] at hr
    obtain ⟨⟨r0,h0⟩,he,rfl⟩:=hr
    simp only [s9a] at hsz
    split at hsz
    ·rename_i ht
     obtain ⟨_,⟨v,h5,h6⟩,ad,h7⟩:=g2g H ht hsz (hs a) (by simp only [eff] at he; exact he)
     refine ⟨v,?_,h6⟩
     simp only [c8z]
     rw [h7] at h5 ⊢
     simpa [Instr.loadAt,Instr.sureAddr,asAddr] using h5
    ·cases hsz
  obtain ⟨v,h5,h6⟩:=one
  refine ⟨v :: vs,?_,by simp [h4.1],fun i c d hc hd=>?_⟩
  ·simp only [List.mapM_cons]
   simp only [Sem.run_bind,Sem.run_pure] at h3 h5 ⊢
   rw [h5]
   simp only [Result.andThen_ok]
   rw [h3]
   simp
  ·cases i with
   | zero=>simp at hc hd; subst hc hd; exact h6
   | succ i=>exact h4.2 i c d (by simpa using hc) (by simpa using hd)
theorem d4j {S:Nat->Prop} {h:Heap} {loc:Loc} {w:World} {rs:List AV} {vs:List Value} (hl:b3j P w S h loc rs vs) :
  SimV P w S h loc (E6z rs) (if h:vs.toArray.size=1 then vs.toArray[0] else .tuple vs.toArray):=by
 cases rs with
 | nil =>
  have : vs=[]:=by have:=hl.1; simp at this; exact List.eq_nil_of_length_eq_zero this.symm
  subst this
  simp [E6z]
  exact .tup [] #[] rfl fun i c h=>by simp at h
 | cons r rs =>
  cases rs with
  | nil =>
   obtain ⟨v,rfl⟩:∃ v,vs=[v]:=by
    have := hl.1
    cases vs with
    | nil=>simp at this
    | cons v vs=>simp at this; exact ⟨v,by rw [this]⟩
   simp [E6z]
   exact hl.2 0 r v rfl rfl
  | cons r2 rs =>
   have hne:¬ vs.toArray.size=1:=by have:=hl.1; simp at this ⊢; omega
   rw [dif_neg hne]
   exact .tup _ vs.toArray (by simp [<- hl.1]) fun i c hc=>(hl.arr).2 i c hc
theorem g9s {B:Nat} {S:Nat->Prop} {loc:Loc} {s:St} {w w0:World} (hw0:w0.heap.size=B) (H:HSim P B S loc s.h w) {S0:Nat->Prop} (hsub:∀ b,S0 b->S b) (hsup:∀ b,S b->S0 b\/B<=b) (hbel:Below B w0 w) {x r:AV} {v:Value} (hz:Fz s.h x r) (hv:SimV P w S s.h loc x v) :
  ∃ v' S' loc',Ending.returned v = .returned v'/\Below w0.heap.size w0 w/\(∀ b,S0 b->S' b)/\(∀ b,S' b->S0 b\/w0.heap.size<=b)/\HSim P w0.heap.size S' loc' (P1a []) w/\SimV P w S' (P1a []) loc' r v':=by
 subst hw0
 have h1:=c5v H hz hv
 have hlt:∀ b,(S b\/b7d loc s.h b)->b<w.heap.size:=fun b hb=>hb.elim (H.lt b) fun ⟨id,o,ho,e⟩=>by rw [e]; exact H.blk_lt ho
 refine ⟨v,_,fun _=>(0,0),rfl,hbel,fun b hb=>.inl (hsub b hb),fun b hb=>?_,⟨fun _ _ _ h=>by simp [P1a] at h,fun _ _ _ h=>by simp [P1a] at h,fun _ h=>by simp [P1a] at h,fun _ h=>by simp [P1a] at h,fun _ _=>by simp [P1a],hlt⟩,?_⟩
 ·rcases hb with hb|⟨id,o,ho,e⟩
  ·exact hsup b hb
  ·exact .inr (by rw [e]; exact H.own id (by rw [ho]; rfl))
 ·exact SimV.carry (h:=Heap.empty) (h':=P1a []) (fun _ _=>rfl) (fun _ h=>h) (fun id h=>h.elim) (fun id sz es hi _=>hi.elim) h1
theorem g9u {B:Nat} {S:Nat->Prop} {loc:Loc} {s:St} {w w0:World} (hw0:w0.heap.size=B) (H:HSim P B S loc s.h w) {S0:Nat->Prop} (hsub:∀ b,S0 b->S b) (hsup:∀ b,S b->S0 b\/B<=b) (hbel:Below B w0 w) {x r:AV} {v:Value}
  (hv : SimV P w S s.h loc x v) {frag:b3z} {ids:List Nat} (hl:ids.length=frag.length) (hnd:ids.Nodup) (hr:Ren (fun id=>(List.range ids.length).find? fun k=>ids[k]?=some id) x r)
  (hfr : ∀ (k sz:Nat) (ds:List (List AV)),frag[k]?=some (sz,ds)->∃ (id:Nat) (es:List (List AV)),ids[k]?=some id/\s.h.ob id=some (sz,es)/\es.length=ds.length/\(∀ e∈ds,e.length=sz) /\
   ∀ i j c,at2 es i j=some c->∃ d,at2 ds i j=some d/\Ren (fun id=>(List.range ids.length).find? fun k=>ids[k]?=some id) c d) :
  ∃ v' S' loc',Ending.returned v = .returned v'/\Below w0.heap.size w0 w/\(∀ b,S0 b->S' b)/\(∀ b,S' b->S0 b\/w0.heap.size<=b)/\HSim P w0.heap.size S' loc' (P1a frag) w/\SimV P w S' (P1a frag) loc' r v':=by
 subst hw0
 let loc':Loc:=fun k=>loc (ids.getD k 0)
 have hff:∀ k n,(fun id=>(List.range ids.length).find? fun k=>ids[k]?=some id) k=some n->(P1a frag).us n/\∀ sz ds,(P1a frag).ob n=some (sz,ds)->∃ es,s.h.ob k=some (sz,es)/\loc' n=loc k:=by
  intro k n hk
  have h1:=List.find?_some hk
  have h2:ids[n]?=some k:=by simpa using h1
  have hlt:n<ids.length:=(gS9.1 h2).1
  refine ⟨by show n<frag.length; omega,fun sz ds hd=>?_⟩
  obtain ⟨id,es,h3,h4,_⟩:=hfr n sz ds hd
  rw [h2] at h3; cases h3
  exact ⟨es,h4,by simp [loc',List.getD,h2]⟩
 have hob:∀ k,((P1a frag).ob k).isSome->∃ id,ids[k]?=some id/\(s.h.ob id).isSome/\loc' k=loc id:=fun k hk=>by
  obtain ⟨⟨sz,ds⟩,ho⟩:=Option.isSome_iff_exists.1 hk
  obtain ⟨id,es,h1,h2,_⟩:=hfr k sz ds ho
  exact ⟨id,h1,by rw [h2]; rfl,by simp [loc',List.getD,h1]⟩
 refine ⟨v,S,loc',rfl,hbel,hsub,hsup,⟨fun k sz ds hd=>?_,fun k k' hne hk hk'=>?_,fun k hk=>?_,fun k hk=>?_,fun k hk=>?_,H.lt⟩,c5z hff hr hv (.inl fun _ h=>h)⟩
 ·obtain ⟨id,es,h1,h2,h3,h4,h5⟩:=hfr k sz ds hd
  have hloc:loc' k=loc id:=by simp [loc',List.getD,h1]
  have hat:=H.obs id sz es h2
  refine ⟨fun hnz=>?_,fun hz hne=>?_,by rw [hloc]; exact hat.b⟩
  rotate_left
  ·cases ds with
   | nil =>
    have : es=[]:=List.eq_nil_of_length_eq_zero h3
    subst this
    have := hat.m hz (by simp)
    rw [hloc]; exact this
   | cons d ds =>
    have := h4 d (by simp)
    rw [hz] at this
    rw [List.length_eq_zero_iff.1 this] at hne
    exact absurd rfl hne
  obtain ⟨⟨arr,ty,hb,hfit⟩,hlen,val,hvv⟩:=hat.o hnz
  refine ⟨⟨arr,ty,by rw [hloc]; exact hb,by rw [hloc,<- h3]; exact hfit⟩,h4,val,fun i j d hd'=>?_⟩
  obtain ⟨hi,hj⟩:=c6l hd' h4
  have hi':i<es.length:=by omega
  have he:=hlen _ (List.getElem_mem hi')
  have hc:at2 es i j=some (es[i][j]'(by rw [he]; exact hj)):=by simp [at2,hi',he,hj]
  obtain ⟨d',hd2,hren⟩:=h5 i j _ hc
  rw [hd'] at hd2; cases hd2
  obtain ⟨e1,e2,e3⟩:=hvv i j _ hc
  exact ⟨by rw [hloc]; exact e1,e2,c5z hff hren e3 (.inl fun _ h=>h)⟩
 ·obtain ⟨id,h1,h2,h3⟩:=hob k hk
  obtain ⟨id',h1',h2',h3'⟩:=hob k' hk'
  have hne':id≠id':=fun e=>by
   subst e
   obtain ⟨hk1,hk2⟩:=gS9.1 h1
   obtain ⟨hk1',hk2'⟩:=gS9.1 h1'
   have := List.pairwise_iff_getElem.1 hnd
   rcases Nat.lt_or_gt_of_ne hne with h|h
   ·exact this k k' hk1 hk1' h (hk2.trans hk2'.symm)
   ·exact this k' k hk1' hk1 h (hk2'.trans hk2.symm)
  rw [h3,h3']; exact H.inj id id' hne' h2 h2'
 ·obtain ⟨id,h1,h2,h3⟩:=hob k hk
  rw [h3]; exact H.notS id h2
 ·obtain ⟨id,h1,h2,h3⟩:=hob k hk
  rw [h3]; exact H.own id h2
 ·have : ¬ k<frag.length:=hk
  simp [P1a]; omega
theorem g3a {w:World} {S:Nat->Prop} {loc:Loc} {h:Heap} {B:Nat} (H:HSim P B S loc h w) (hB:B<=w.heap.size) (htop:∀ k,h.nx<=k->¬ h.us k) (hL:r7j P w S) (fn:Func) {as:List AV} {vs:Array Value} (hsz:vs.size=as.length)
  (hl : as.length=fn.params.size+fn.nfree) (hv:∀ (i:Nat) a,as[i]?=some a->SimV P w S h loc a (vs.getD i undef)) :
  SimA P ⟨S,loc,h,w,B,[]⟩ (c1k fn) { start as with h:=h } { tmps:=vs++Array.replicate (fn.ntmps - vs.size) undef,defers:=[] } w:=by
 refine ⟨⟨⟨S,loc,.refl H,fun t=>?_⟩,j7g hL,hB,rfl,?_⟩,htop⟩
 ·by_cases ht:t<as.length
  ·have h1:=hv t _ (gG9 ht)
   have e1:(vs++Array.replicate (fn.ntmps - vs.size) undef).getD t undef=vs.getD t undef:=by
    have : t<vs.size:=by omega
    simp [Array.getD,this]; omega
   have e2:(start as).t t=as[t]:=by simp [start,List.getD,ht]
   show SimV P w S h loc ((start as).t t) _
   rw [e1,e2]; exact h1
  ·have e1:(vs++Array.replicate (fn.ntmps - vs.size) undef).getD t undef=undef:=by
    have : ¬ t<vs.size:=by omega
    simp only [Array.getD_eq_getD_getElem?]
    rw [Array.getElem?_append_right (by omega)]
    by_cases h:t - vs.size<fn.ntmps - vs.size
    ·simp [h]
    ·simp [h]
   have e2:(start as).t t = .v (.tuple #[]):=by
    have : as[t]?=none:=List.getElem?_eq_none (by omega)
    simp [start,List.getD,this]
   show SimV P w S h loc ((start as).t t) _
   rw [e1,e2]; exact .v undef
 ·simp only [c1k,Array.size_append,Array.size_replicate]; omega
theorem d6w {bf:List Nat} {fz:List (Nat × Nat)} {fn:Func} {x:XFunc} (h:c6p P bf fz fn=some x):b2k fn.name=none/\(fn.body.bind fun c=>(b4m P bf fz (c1k fn) c).bind fun b=>(fn.results.toList.mapM (c2d P)).map fun r=>({ np:=fn.params.size+fn.nfree,res:=r,body:=b }:XFunc))=some x:=by
 unfold c6p at h
 split at h
 ·cases h
 ·rename_i hn
  exact ⟨by simpa using hn,h⟩
theorem j3t {f:String} {x:XFunc} (hm:b2k f=none) (hc:∀ (id:Nat) fn,P.funcs[id]?=some fn->fn.name=f->∃ bf fz,c6p P bf fz fn=some x):Has (b0n P) f x:=by
 constructor
 ·intro as r frag hl hw _ id fn hfn hname w S vs hSlt hLd hsz hv
  obtain ⟨bf,fz,hcomp⟩:=hc id fn hfn hname
  have hcomp:=(d6w hcomp).2
  simp only [bE9,mE9] at hcomp
  obtain ⟨c,hbody,b,hb,res,hres,rfl⟩:=hcomp
  simp only at hl hw
  have hA:=g3a (HSim.empty P w.heap.size S (fun _=>(0,0)) w hSlt) (Nat.le_refl _) (fun k _ h=>h) hLd fn hsz hl hv
  refine calls_of_wp hfn hbody (wp_mono (d6v (O:=b0n P) (fun _ _ _ _ h=>h) (fun _ _ _ _ _ h=>h) c hb hw hA) ?_)
  have fin:∀ s' (a':Act) (w':World),b4b res r frag s'->SimA P ⟨S,fun _=>(0,0),Heap.empty,w,w.heap.size,[]⟩ (c1k fn) s' a' w'->a'.defers=[]/\∃ v,(results fn a'.tmps).run P w' = .ok v w' /\
    ∃ v' S' loc,Ending.returned v = .returned v'/\Below w.heap.size w w'/\(∀ b,S b->S' b)/\(∀ b,S' b->S b\/w.heap.size<=b)/\HSim P w.heap.size S' loc (P1a frag) w'/\SimV P w' S' (P1a frag) loc r v':=fun s' a' w' hd hA'=>by
   refine ⟨hA'.b.defers,?_⟩
   obtain ⟨S1,loc,u,hs⟩:=hA'.b.ex
   have hH:=u.hs
   have hrun:∀ {rs},res.mapM (l18 s')=some rs->∃ vs,(results fn a'.tmps).run P w' = .ok (if h:vs.toArray.size=1 then vs.toArray[0] else .tuple vs.toArray) w'/\b3j P w' S1 s'.h loc rs vs:=fun {rs} hrs=>by
    obtain ⟨vs',h1,h2⟩:=d4y hs hres hrs hH
    refine ⟨vs',?_,h2⟩
    rw [g2t,Sem.run_bind,g21 _ _ _ h1]
    rfl
   rcases hd with ⟨rfl,rs,hrs,hz⟩|⟨rs,ids,hrs,hl,hnd,hr,hfr⟩
   ·obtain ⟨vs',h1,h2⟩:=hrun hrs
    exact ⟨_,h1,g9s rfl hH u.sub u.sup u.below hz (d4j h2)⟩
   ·obtain ⟨vs',h1,h2⟩:=hrun hrs
    exact ⟨_,h1,g9u rfl hH u.sub u.sup u.below (d4j h2) hl hnd hr hfr⟩
  rintro e a' w' ⟨e',s',hm,hq,hA'⟩
  cases hm with
  | normal=>exact fin s' a' w' hq hA'
  | exit id=>exact hq.elim
  | ret=>exact fin s' a' w' hq hA'
 ·intro as h r h' hl hw
  have goal:∀ id fn,P.funcs[id]?=some fn->fn.name=f->B82 P id as h r h':=?_
  ·unfold b0n; simp only [hm]; exact goal
  intro id fn hfn hname B w S loc vs H hB htop hLd hsz hv
  obtain ⟨bf,fz,hcomp⟩:=hc id fn hfn hname
  have hcomp:=(d6w hcomp).2
  simp only [bE9,mE9] at hcomp
  obtain ⟨c,hbody,b,hb,res,hres,rfl⟩:=hcomp
  simp only at hl hw
  have hA:=g3a H hB htop hLd fn hsz hl hv
  refine calls_of_wp hfn hbody (wp_mono (d6v (O:=b0n P) (fun _ _ _ _ h=>h) (fun _ _ _ _ _ h=>h) c hb hw hA) ?_)
  have fin:∀ s' (a':Act) (w':World),((∃ rs,res.mapM (l18 s')=some rs/\E6z rs=r)/\s'.h=h')->SimA P ⟨S,loc,h,w,B,[]⟩ (c1k fn) s' a' w'->a'.defers=[]/\∃ v,(results fn a'.tmps).run P w' = .ok v w' /\
    ∃ v' S' loc',Ending.returned v = .returned v'/\Upd P B S loc h w S' loc' h' w'/\SimV P w' S' h' loc' r v':=fun s' a' w' hd hA'=>by
   refine ⟨hA'.b.defers,?_⟩
   obtain ⟨S1,loc1,u,hs⟩:=hA'.b.ex
   obtain ⟨⟨rs,hrs,rfl⟩,rfl⟩:=hd
   obtain ⟨vs',h1,h2⟩:=d4y hs hres hrs u.hs
   refine ⟨_,by rw [g2t,Sem.run_bind,g21 _ _ _ h1]; rfl,_,S1,loc1,rfl,u,d4j h2⟩
  rintro e a' w' ⟨e',s',hm,hq,hA'⟩
  cases hm with
  | normal=>exact fin s' a' w' hq hA'
  | exit id=>exact hq.elim
  | ret=>exact fin s' a' w' hq hA'
end
end Go.Nw
