/- A law's contract from its contract over the abstract machine. -/
import Derived.Test.YtojneiildpnpiaaNwRead
import Derived.OpenShut
set_option linter.all false
namespace Go.Nw
variable [Cfg] [Bd]
open Go.Deep Go.ChangeShapes Go.WideShapes Go.WideElems Go.ChangeAt Go.RowKit
inductive ASh where
 | c (s:Sh)
 | agg (es:List Sh)
def shA (P:Program) (n:Nat) (t:TypeId):Option ASh:=(shT P n t).bind fun es=>match P.underlying t with
 | some (.struct _)=>some (.agg es)
 | some .bool|some (.int _)|some .string|some (.slice _)=>match es with|[s]=>some (.c s)|_=>none
 | _=>none
def c4t (P:Program) (n:Nat):List TypeId->Option (List ASh)
 | []=>some []
 | t :: ts=>(shA P n t).bind fun s=>(c4t P n ts).map (s :: ·)
inductive MtA:ASh->AV->Prop
 | c {s:Sh} {x:AV}:Mt s x->MtA (.c s) x
 | agg {es:List Sh} {r:List AV}:MtL es r->MtA (.agg es) (.agg r)
def b7z:List ASh->List AV->Prop
 | [],[]=>True
 | s :: ss,x :: xs=>MtA s x/\b7z ss xs
 | _,_=>False
section
variable {H:Type} {enc:TypeId × Value->H} {P:Program} {w:World}
theorem u9b {s:Sh} {r:List AV} {v:Value} (hm:MtL [s] r) (hr:s8o P w [v] r):∃ a,Mt s a/\SimV P w (fun b=>b<w.heap.size) Heap.empty (fun _=>(0,0)) a v:=by
 obtain ⟨h1,h2⟩:=hm
 match r,h1 with
 | [a],_ =>
  refine ⟨a,h2 0 a s rfl rfl,?_⟩
  obtain ⟨v',e,h⟩:=hr.2 0 a rfl
  simp at e; subst e; exact h.2
theorem l4a {bk:DataW H->Nat} {n:Nat} {t:TypeId} {s:ASh} (hs:shA P n t=some s) {base:Nat} {v:Value} (hv:Value.okWide P w .any base t v) {d:DataW H} {p:List MemPlace} (h:DataW.Trod enc P w 0 (fun _=>true) true t v d p) (hsm:Sm bk d) :
  ∃ a,MtA s a/\SimV P w (fun b=>b<w.heap.size) Heap.empty (fun _=>(0,0)) a v:=by
 obtain ⟨fuel,h⟩:=h
 simp only [shA,bE9] at hs
 obtain ⟨es,he,hs⟩:=hs
 obtain ⟨hl,r,hm,hr⟩:=c8w (bk:=bk) n t es he fuel _ _ h hsm
 have one:(∀ cs,v≠.agg cs)->∀ s',es=[s']->∃ a,MtA (.c s') a/\SimV P w (fun b=>b<w.heap.size) Heap.empty (fun _=>(0,0)) a v:=fun hne s' e=>by
  subst e
  have : v.cells.toList=[v]:=by
   cases v <;> simp [Value.cells]
   exact absurd rfl (hne _)
  rw [this] at hr
  obtain ⟨a,h1,h2⟩:=u9b hm hr
  exact ⟨a,.c h1,h2⟩
 cases hu:P.underlying t with
 | none=>simp [hu] at hs
 | some u =>
  cases u with
  | struct fs =>
   simp [hu] at hs; subst hs
   simp only [Value.okWide,hu] at hv
   obtain ⟨cs,rfl,hcs,_⟩:=hv
   simp only [Value.cells] at hr hl
   refine ⟨.agg r,.agg hm,.agg r cs (by rw [hr.1]; simp) (fun i hi=>?_) (fun i c hc=>?_)⟩
   ·have hlt:i<r.length:=by rw [hr.1]; simpa using hi
    obtain ⟨v,h1,h2⟩:=hr.2 i _ (gG9 hlt)
    have : cs.getD i undef=v:=by simp at h1; simp [Array.getD,hi]; exact (Array.getElem?_eq_some_iff.1 h1).2
    rw [this]; exact h2.1
   ·obtain ⟨v,h1,h2⟩:=hr.2 i c hc
    have hi:i<cs.size:=by have:=(gS9.1 hc).1; rw [hr.1] at this; simpa using this
    have : cs.getD i undef=v:=by simp at h1; simp [Array.getD,hi]; exact (Array.getElem?_eq_some_iff.1 h1).2
    rw [this]; exact h2.2
  | bool =>
   simp only [hu] at hs
   split at hs
   ·simp at hs; subst hs
    exact one (fun cs e=>by subst e; simp [Value.okWide,hu,Cell.okWide,Cell.ok] at hv) _ rfl
   ·cases hs
  | int k =>
   simp only [hu] at hs
   split at hs
   ·simp at hs; subst hs
    exact one (fun cs e=>by subst e; simp [Value.okWide,hu,Cell.okWide,Cell.ok] at hv) _ rfl
   ·cases hs
  | string =>
   simp only [hu] at hs
   split at hs
   ·simp at hs; subst hs
    exact one (fun cs e=>by subst e; simp [Value.okWide,hu,Cell.okWide,Cell.ok] at hv) _ rfl
   ·cases hs
  | slice e =>
   simp only [hu] at hs
   split at hs
   ·simp at hs; subst hs
    exact one (fun cs e=>by subst e; simp [Value.okWide,hu,Cell.okWide,Cell.ok] at hv) _ rfl
   ·cases hs
  | _=>simp [hu] at hs
theorem g2p {bk:DataW H->Nat} {n base:Nat}:∀ (ts:List TypeId) (vs:List Value) (ds:List (DataW H)) (ps:List MemPlace) (ss:List ASh),DataW.TrodAll enc P w 0 (fun _=>true) true ts vs ds ps ->
  (∀ (j:Nat) t v,ts[j]?=some t->vs[j]?=some v->Value.okWide P w .any base t v)->(∀ d∈ds,Sm bk d)->c4t P n ts=some ss ->
  ds.length = ts.length/\∃ as:List AV,b7z ss as/\as.length=vs.length/\∀ (i:Nat) a,as[i]?=some a->∃ v,vs[i]?=some v/\SimV P w (fun b=>b<w.heap.size) Heap.empty (fun _=>(0,0)) a v
 | [],vs,ds,ps,ss,h,_,_,hs=>by
  cases vs <;> cases ds <;> simp [DataW.TrodAll] at h
  simp [c4t] at hs; subst hs
  exact ⟨rfl,[],trivial,rfl,by simp⟩
 | t :: ts,vs,ds,ps,ss,h,hv,hsm,hs=>by
  obtain ⟨v,vs',d,ds',p,q,rfl,rfl,rfl,h0,h1⟩:=trodAll_cons h
  simp only [c4t,bE9,mE9] at hs
  obtain ⟨s,hs1,ss',hs2,rfl⟩:=hs
  obtain ⟨a,ha,ha2⟩:=l4a hs1 (hv 0 t v rfl rfl) h0 (hsm d List.mem_cons_self)
  obtain ⟨hl,as,h3,h4,h5⟩:=g2p ts vs' ds' q ss' h1 (fun j t v ht hv'=>hv (j+1) t v (by simpa using ht) (by simpa using hv')) (fun d hd=>hsm d (List.mem_cons_of_mem _ hd)) hs2
  refine ⟨by simp [hl],a :: as,⟨ha,h3⟩,by simp [h4],fun i a' hi=>?_⟩
  cases i with
  | zero=>simp at hi; subst hi; exact ⟨v,rfl,ha2⟩
  | succ i=>simpa using h5 i a' (by simpa using hi)
theorem g3q {W W':World} (hl:laidOutB P=true) {sp':Nat->Bool}:∀ (ts:List TypeId) (vs:List Value) (ds:List (DataW H)) (ps:List MemPlace),(∀ t∈ts,P.readableRec t=true/\t<P.types.size) ->
  DataW.TrodAll enc P W 0 (fun _=>true) true ts vs ds ps->(∀ p∈ps,W.sameAt W' p)->(∀ p∈ps,sp' p.block=true)->DataW.TrodAll enc P W' 0 sp' true ts vs ds ps
 | [],vs,ds,ps,_,h,_,_=>by
  cases vs <;> cases ds <;> simp [DataW.TrodAll] at h
  simpa [DataW.TrodAll] using h
 | t :: ts,vs,ds,ps,hr,h,h1,h2=>by
  obtain ⟨v,vs',d,ds',p,q,rfl,rfl,rfl,h0,h3⟩:=trodAll_cons h
  obtain ⟨a,b⟩:=hr t List.mem_cons_self
  exact trodAll_cons_mk (Trod_stays hl a b h0 (fun x hx=>h1 x (List.mem_append_left _ hx)) (fun x hx=>h2 x (List.mem_append_left _ hx)))
   (g3q hl ts vs' ds' q (fun t ht=>hr t (List.mem_cons_of_mem _ ht)) h3 (fun x hx=>h1 x (List.mem_append_right _ hx)) (fun x hx=>h2 x (List.mem_append_right _ hx)))
theorem j7h {bk:DataW H->Nat} {f:FuncId} {fn:Func} {s:ChangeSpec} {tb:TypeId} {ss:List ASh} {n:Nat} (hfn:P.funcs[f]?=some fn) (hl:laidOutB P=true)
  (hr : fn.params.toList.all (fun t=>P.readableRec t && decide (t<P.types.size))=true) (hres:fn.resultTypes=#[tb]) (hb:P.underlying tb=some .bool) (hvars:s.vars=[])
  (hsp : ∀ ds:List (DataW H),ds.length=fn.params.size->s.fn H ds={ results:=[.lit (.bool true)],args:=ds }) (hss:c4t P n fn.params.toList=some ss)
  (hmodel : ∀ as,b7z ss as->b0n P fn.name as (B true) [])
  (W : World) (hL:r7j P W fun b=>b<W.heap.size) (base:Nat) (args:Array Value) (ds gs:List (DataW H)) (before:List MemPlace)
  (hval : ∀ (j:Nat) t v,fn.params[j]?=some t->args[j]?=some v->Value.okWide P W .any base t v) (hsm:∀ d∈ds,Sm bk d)
  (hW : DataW.Whole enc P fn.params.toList s.vars false W args.toList ds gs before) :
  Calls P f args W fun e W'=>∃ v,e = .returned v/\s.post enc P fn false true false false W args v W':=by
 have hW':=hW
 obtain ⟨p,q,hA,hV,rfl,hfz,hnd⟩:=hW
 rw [hvars] at hV
 obtain ⟨rfl,rfl⟩:=trodVars_none hV
 simp only [List.append_nil] at hW'
 obtain ⟨hdl,as,hm,hal,hsim⟩:=g2p (base:=base) _ _ _ _ ss hA (fun j t v ht hv=>hval j t v (by simpa using ht) (by simpa using hv)) hsm hss
 have hc:d5w P f as (B true) []:=hmodel as hm f fn hfn rfl
 refine (hc W (fun b=>b<W.heap.size) args (fun b h=>h) hL (by simpa using hal.symm) (fun i a hi=>?_)).mono ?_
 ·obtain ⟨v,h1,h2⟩:=hsim i a hi
  have : args.getD i undef=v:=by simp at h1; simp [Array.getD]; obtain ⟨h3,h4⟩:=Array.getElem?_eq_some_iff.1 h1; simp [h3,h4]
  rw [this]; exact h2
 ·rintro e W' ⟨v,S',loc,rfl,hbel,_,_,_,hv⟩
  cases hv
  have hlt:=hW'.lt
  have hsf:=hsp (ds++[]) (by simp [hdl])
  refine ⟨_,rfl,ds,[],p,[],p,[],hW',?_,?_,?_,hbel.frame _,fun h=>by cases h⟩
  ·rw [hsf,hres]
   exact trodAll_cons_mk (shut_bool hb true) trodAll_mk0
  ·rw [hsf]
   simp only [List.append_nil]
   exact g3q hl _ _ _ _ (fun t ht=>by simpa using List.all_eq_true.1 hr t ht) hA (fun x hx=>hbel.same (hlt x hx)) (fun x hx=>by simpa using hlt x hx)
  ·rw [hsf,hvars]; rfl
end
end Go.Nw
