/- One operation of the model, by what the abstract machine says of it. -/
import Derived.Test.YtojneiildpnpiaaNwEq
set_option linter.all false
namespace Go.Nw
variable [Cfg]
open Go.RowKit
section
variable {P:Program} {B:Nat} {S:Nat->Prop} {loc:Loc} {h:Heap} {w:World}
def b4k (P:Program) (B:Nat) (S:Nat->Prop) (loc:Loc) (h:Heap) (w:World) (m:Sem Next) (r:AV) (h':Heap):Prop :=
 ∃ n v w' S' loc',m.run P w = .ok n w'/\(n = .value v\/n = .skip/\v=undef)/\Upd P B S loc h w S' loc' h' w'/\SimV P w' S' h' loc' r v
theorem b1m.next {m:Sem Value} {r:AV} {h':Heap} (ho:b1m P B S loc h w m r h'):b4k P B S loc h w (do pure (.value (<- m))) r h':=by
 obtain ⟨v,w',S',loc',hr,u,hs⟩:=ho
 refine ⟨.value v,v,w',S',loc',?_,.inl rfl,u,hs⟩
 simp [hr]
theorem b4k.pure (H:HSim P B S loc h w) {r:AV} {v:Value} (hs:SimV P w S h loc r v):b4k P B S loc h w (Pure.pure (.value v)) r h :=
 ⟨.value v,v,w,S,loc,rfl,.inl rfl,.refl H,hs⟩
theorem s3x {ρ:Operand->Value} {ev:X->AV} (hev:∀ x y,b1f P x=some y->SimV P w S h loc (ev y) (ρ x)) {l:List Operand} {ys:List X} (hm:l.mapM (b1f P)=some ys) :
  b3j P w S h loc (ys.map ev) (l.map ρ):=by
 obtain ⟨hl,hi⟩:=c7v _ l ys hm
 refine ⟨by simp [hl],fun i c d hc hd=>?_⟩
 simp only [List.getElem?_map,mE9] at hc hd
 obtain ⟨y,hy,rfl⟩:=hc
 obtain ⟨x,hx,rfl⟩:=hd
 obtain ⟨x',hx',hf⟩:=hi i y hy
 rw [hx] at hx'; cases hx'
 exact hev _ _ hf
theorem c9n {α:Type} {a:Array α} {x:α} (h:a.toList=[x]):a=#[x]:=by
 apply Array.ext'; simpa using h
theorem c9o {α:Type} {a:Array α} {x y:α} (h:a.toList=[x,y]):a=#[x,y]:=by
 apply Array.ext'; simpa using h
theorem b34 {t n:Nat} (h:s9a P t=some n):(P.underlying t).isSome=true/\b1x P t=some n:=by
 unfold s9a at h
 split at h
 ·rename_i hu; exact ⟨hu,h⟩
 ·cases h
theorem g6m (H:HSim P B S loc h w) {op:BinOp} {t:Nat} {x y:AV} {u v:Value} (hx:SimV P w S h loc x u) (hy:SimV P w S h loc y v) (a b:Operand) {r:AV} (he:b3f op (c6x P t) x y=some r) :
  b4k P B S loc h w (do let z <- (do eqGuard op t a b u v; binOp op t u v:Sem Value); Pure.pure (.value z)) r h:=by
 have fin:∀ {z:Value},(∀ ua,u≠.agg ua)->(u≠.nilIface)->(binOp op t u v).run P w = .ok z w->SimV P w S h loc r z->b4k P B S loc h w (do let z <- (do eqGuard op t a b u v; binOp op t u v:Sem Value); Pure.pure (.value z)) r h:=by
  intro z h1 h2 hz hs
  have hg:(eqGuard op t a b u v).run P w = .ok () w:=by
   cases u with
   | agg ua=>exact absurd rfl (h1 ua)
   | nilIface=>exact absurd rfl h2
   | _=>cases op <;> rfl
  refine ⟨.value z,z,w,S,loc,?_,.inl rfl,.refl H,hs⟩
  simp [hg,hz]
 unfold b3f at he
 split at he
 ·cases hx; cases hy
  simp only [mE9] at he
  obtain ⟨z,hz,rfl⟩:=he
  refine fin (by simp) (by simp) ?_ (.v z)
  unfold b3m at hz
  split at hz
  ·exact g23 t (.inl rfl) hz
  ·exact g23 t (.inr rfl) hz
  ·rename_i h1 h2
   split at hz
   ·rename_i hk; subst hk; exact l4z t ⟨h1,h2⟩ hz
   ·cases hz
 ·cases hx; cases hy
  simp only [mE9] at he
  obtain ⟨z,hz,rfl⟩:=he
  exact fin (by simp) (by simp) (p9x t hz) (.v z)
 ·-- equality
  have hop:∃ neg:Bool,op=(if neg then BinOp.eql else BinOp.neq)/\∃ q,b2z (c6x P t) x y=some q/\r = .v (.bool (if neg then q else !q)):=by
   split at he
   ·simp only [mE9] at he; obtain ⟨q,hq,rfl⟩:=he; exact ⟨true,rfl,q,hq,rfl⟩
   ·simp only [mE9] at he; obtain ⟨q,hq,rfl⟩:=he; exact ⟨false,rfl,q,hq,rfl⟩
   ·cases he
  clear he
  obtain ⟨neg,rfl,q,hq,rfl⟩:=hop
  unfold c6x at hq
  have fl:∀ {ks:List FK},P.eqGuardType P.depth t=false->b2m P 20 t=some ks->b2c P t=true->b2z (.flat ks) x y=some q ->
    b4k P B S loc h w (do let z <- (do eqGuard (if neg then BinOp.eql else BinOp.neq) t a b u v; binOp (if neg then BinOp.eql else BinOp.neq) t u v:Sem Value); Pure.pure (.value z)) (.v (.bool (if neg then q else !q))) h:=by
   intro ks hguard hft hagg hq
   have hxy:∃ as bs,x = .agg as/\y = .agg bs/\as.length=ks.length/\bs.length=ks.length/\r7h ks as bs=some q:=by
    unfold b2z at hq
    simp only at hq
    split at hq
    ·split at hq
     ·rename_i hlen; exact ⟨_,_,rfl,rfl,hlen.1,hlen.2,hq⟩
     ·cases hq
    ·cases hq
   obtain ⟨as,bs,rfl,rfl,hla,hlb,hq⟩:=hxy
   cases hx with
   | agg _ vs hl h1 hc =>
    cases hy with
    | agg _ us hl' h1' hc' =>
     have hxl:vs.toList.length=ks.length:=by simp [hl,hla]
     have hyl:us.toList.length=ks.length:=by simp [hl',hlb]
     have hf:=D1d (P:=P) (w:=w) (S:=S) (h:=h) (loc:=loc) ks as bs vs.toList us.toList (by simp [hl]) (by simp [hl'])
      (fun j c hj=>⟨_,by rw [Array.getElem?_toList]; exact getD_some (by rw [hl]; exact (gS9.1 hj).1),hc j c hj⟩)
      (fun j c hj=>⟨_,by rw [Array.getElem?_toList]; exact getD_some (by rw [hl']; exact (gS9.1 hj).1),hc' j c hj⟩) q hq
     have he:=b91 (P:=P) (w:=w) 20 t ks hft 10000 (by omega) vs.toList us.toList q hxl hyl hf
     simp only [b4l,hagg,if_true,Array.toArray_toList] at he
     have hg:=run_eqGuard_agg w (if neg then BinOp.eql else BinOp.neq) t a b vs us hguard
     refine ⟨.value (.bool (if neg then q else !q)),_,w,S,loc,?_,.inl rfl,.refl H,.v _⟩
     cases neg
     ·simp only [fT9,if_false] at hg ⊢
      simp only [Sem.run_bind,hg,Result.andThen_ok,run_neq_struct w t vs us,he,Sem.run_pure]
     ·simp only [if_true] at hg ⊢
      simp only [Sem.run_bind,hg,Result.andThen_ok,run_eql_struct w t vs us,he,Sem.run_pure]
  split at hq
  ·rename_i ht
   unfold b2z at hq
   simp only at hq
   split at hq
   ·cases hx; cases hy; cases hq
    refine fin (by simp) (by simp) ?_ (.v _)
    cases neg
    ·show ((Op.equal t _ _ >>= fun r=>Pure.pure (Value.bool (!r)):Sem Value)).run P w=_
     simp only [Sem.run_bind,run_equal_bool w t _ _ ht,Result.andThen_ok,Sem.run_pure]; rfl
    ·show ((Op.equal t _ _ >>= fun r=>Pure.pure (Value.bool r):Sem Value)).run P w=_
     simp only [Sem.run_bind,run_equal_bool w t _ _ ht,Result.andThen_ok,Sem.run_pure]; rfl
   ·cases hq
  ·rename_i e ht
   unfold b2z at hq
   simp only at hq
   split at hq
   ·cases hy
    have hxs:∃ ad n c,u = .slice ad n c/\ad.isNone=q:=by
     unfold c0h at hq
     split at hq
     ·cases hx; cases hq; exact ⟨none,_,_,rfl,rfl⟩
     ·cases hq
      cases hx with
      | rs _ _ _ _ hid hs hx'=>obtain ⟨ad,c,rfl⟩:=hs; exact ⟨_,_,_,rfl,rfl⟩
     ·cases hq
      cases hx with
      | fs _ _ b' o cap=>exact ⟨_,_,_,rfl,rfl⟩
     ·cases hq
    obtain ⟨ad,n,c,rfl,rfl⟩:=hxs
    exact fin (by simp) (by simp) (l5l ht ad n c neg) (.v _)
   ·cases hq
  ·rename_i e ht
   split at hq
   ·simp [b2z] at hq
   ·unfold b2z at hq
    simp only at hq
    split at hq
    ·cases hy
     have hxs:∃ ad,u = .pointer ad/\ad.isNone=q:=by
      unfold g0w at hq
      split at hq
      ·cases hx; cases hq; exact ⟨none,rfl,rfl⟩
      ·cases hq
       cases hx with
       | rp _ _ _ _ hid hs hx'=>obtain ⟨ad,rfl⟩:=hs; exact ⟨_,rfl,rfl⟩
      ·cases hq
       cases hx with
       | fp=>exact ⟨_,rfl,rfl⟩
      ·cases hq
     obtain ⟨ad,rfl,rfl⟩:=hxs
     exact fin (by simp) (by simp) (l3z ht ad neg) (.v _)
    ·cases hq
  ·rename_i fs ht
   split at hq
   ·simp [b2z] at hq
   ·rename_i hguard
    split at hq
    ·rename_i ks hft
     exact fl (by simpa using hguard) hft (by simp [b2c,ht]) hq
    ·simp [b2z] at hq
  ·rename_i n e ht
   split at hq
   ·simp [b2z] at hq
   ·rename_i hguard
    split at hq
    ·rename_i ks hft
     exact fl (by simpa using hguard) hft (by simp [b2c,ht]) hq
    ·simp [b2z] at hq
  ·simp [b2z] at hq
theorem g56 (H:HSim P B S loc h w) {r:AV} {h':Heap} (hnx:h.nx<h'.nx->¬ h.us h.nx) (hB:B<=w.heap.size) {t u ty e e2 sz bytes:Nat} {zs:List Value} (ht:P.underlying t=some (.slice e)) (hu:P.underlying u=some (.slice e2)) (hn:b1x P e=some sz) (hz:b3v P e=some zs) (hzl:zs.length=sz) (hs0:sz≠0)
  (hb : b5e P e=some bytes) (hb1:1<=bytes) {ys yx:X} {ev:X->AV} {vb v:Value} (hxb:SimV P w S h loc (ev ys) vb) (hx:SimV P w S h loc (ev yx) v)
  (he : eff (.app sz bytes ys yx) ev h=some (r,h')):b1m P B S loc h w (Builtin.append_ #[t,u] ty #[vb,v]) r h':=by
 have small:∀ n:Nat,n * bytes<=2 ^ 40->n<=maxLen:=fun n hh=>by
  have := Nat.le_mul_of_pos_right n (show 0<bytes by omega)
  unfold maxLen; omega
 simp only [eff] at he
 split at he
 ·rename_i id2 lo2 len2 hyx
  rw [hyx] at hx
  simp only [bE9] at he
  obtain ⟨⟨sz2,es2⟩,ho2,he⟩:=he
  split at he
  ·rename_i hys
   rw [hys] at hxb; cases hxb
   split at he
   ·rename_i h0
    simp only [iE9,Prod.mk.injEq] at he; obtain ⟨rfl,rfl⟩:=he
    subst h0
    cases hx with
    | rs _ _ _ _ hid hs hx =>
     obtain ⟨a,c,rfl⟩:=hs
     refine b1m.same H (v:=.slice none 0 0) ?_ (.v _)
     simp [Builtin.append_,run_underlying ht,run_underlying hu,b3s hn,Builtin.lenOf,Builtin.firstCells,loadCells,loadCellsFrom]
   ·rename_i h0
    split at he
    ·rename_i hcond
     obtain ⟨hc1,hc2,hc3⟩:=hcond
     simp only [iE9,Prod.mk.injEq] at he; obtain ⟨rfl,rfl⟩:=he
     simp only at hc1 hc2; subst hc1
     have hsrc:=d5g H hx ho2 hc2
     have hwl:((es2.drop lo2).take len2).length=len2:=by simp; omega
     have := g2d (ty:=ty) H (hnx (Nat.lt_succ_self _)) hB ht hu hn hz hzl hs0 hb hsrc (by rw [hwl]; exact hc3) (by rw [hwl]; exact small _ hc3) (by rw [hwl]; omega)
     rw [hwl] at this
     exact this
    ·cases he
  ·rename_i id lo len hys
   rw [hys] at hxb
   simp only [bE9] at he
   obtain ⟨⟨sz1,es1⟩,ho1,he⟩:=he
   split at he
   ·rename_i hcond
    obtain ⟨hc1,hc2,hc3,hc4,hc5,hc6⟩:=hcond
    simp only [iE9,Prod.mk.injEq] at he; obtain ⟨rfl,rfl⟩:=he
    simp only at hc1 hc2 hc4 hc5; subst hc1; subst hc2
    have hsrc:=d5g H hx ho2 hc5
    have hwl:((es2.drop lo2).take len2).length=len2:=by simp; omega
    have := d4i (ty:=ty) H (hnx (Nat.lt_succ_self _)) hB ht hu hn hz hzl hs0 hb hxb ho1 hc4 hsrc (by rw [hwl]; exact hc6) (by rw [hwl]; exact small _ hc6)
    rw [hwl] at this
    exact this
   ·cases he
  ·cases he
 ·rename_i sz2 es hyx
  rw [hyx] at hx
  have hsrc:=g3g hx
  split at he
  ·rename_i hys
   rw [hys] at hxb; cases hxb
   split at he
   ·rename_i h0
    simp only [iE9,Prod.mk.injEq] at he; obtain ⟨rfl,rfl⟩:=he
    have hnil:es=[]:=List.eq_nil_of_length_eq_zero h0
    subst hnil
    refine b1m.same H (v:=.slice none 0 0) ?_ (.v _)
    obtain ⟨hlen,_,_⟩:=hsrc
    have h1:=hlen w
    simp only [List.length_nil] at h1
    cases hx with
    | fsNil=>simp [Builtin.append_,run_underlying ht,run_underlying hu,b3s hn,Builtin.lenOf,Builtin.firstCells]
    | fsE=>simp [Builtin.append_,run_underlying ht,run_underlying hu,b3s hn,Builtin.lenOf,Builtin.firstCells,loadCells,loadCellsFrom]
    | fs=>simp [Builtin.append_,run_underlying ht,run_underlying hu,b3s hn,Builtin.lenOf,Builtin.firstCells,loadCells,loadCellsFrom]
   ·rename_i h0
    split at he
    ·rename_i hcond
     obtain ⟨hc1,hc3⟩:=hcond
     simp only [iE9,Prod.mk.injEq] at he; obtain ⟨rfl,rfl⟩:=he
     subst hc1
     exact g2d (ty:=ty) H (hnx (Nat.lt_succ_self _)) hB ht hu hn hz hzl hs0 hb hsrc hc3 (small _ hc3) (by omega)
    ·cases he
  ·rename_i id lo len hys
   rw [hys] at hxb
   simp only [bE9] at he
   obtain ⟨⟨sz1,es1⟩,ho1,he⟩:=he
   split at he
   ·rename_i hcond
    obtain ⟨hc1,hc2,hc4,hc6⟩:=hcond
    simp only [iE9,Prod.mk.injEq] at he; obtain ⟨rfl,rfl⟩:=he
    simp only at hc1 hc4; subst hc1; subst hc2
    exact d4i (ty:=ty) H (hnx (Nat.lt_succ_self _)) hB ht hu hn hz hzl hs0 hb hxb ho1 hc4 hsrc hc6 (small _ hc6)
   ·cases he
  ·cases he
 ·rename_i hyx
  rw [hyx] at hx
  cases hx
  have hx':SimV P w S h loc (.fs sz []) (.slice none 0 0):=.fsNil sz
  have hsrc:=g3g hx'
  split at he
  ·rename_i hys
   rw [hys] at hxb; cases hxb
   simp only [iE9,Prod.mk.injEq] at he; obtain ⟨rfl,rfl⟩:=he
   refine b1m.same H (v:=.slice none 0 0) ?_ (.v _)
   simp [Builtin.append_,run_underlying ht,run_underlying hu,b3s hn,Builtin.lenOf,Builtin.firstCells]
  ·rename_i id lo len hys
   rw [hys] at hxb
   simp only [bE9] at he
   obtain ⟨⟨sz1,es1⟩,ho1,he⟩:=he
   split at he
   ·rename_i hcond
    obtain ⟨hc1,hc4,hc6⟩:=hcond
    simp only [iE9,Prod.mk.injEq] at he; obtain ⟨rfl,rfl⟩:=he
    simp only at hc1 hc4; subst hc1
    have := d4i (ty:=ty) H (hnx (Nat.lt_succ_self _)) hB ht hu hn hz hzl hs0 hb hxb ho1 hc4 hsrc (by simpa using hc6) (by simpa using small _ hc6)
    simpa using this
   ·cases he
  ·cases he
 ·cases he
set_option maxHeartbeats 4000000 in
theorem j0l (H:HSim P B S loc h w) {r:AV} {h':Heap} (hnx:h.nx<h'.nx->¬ h.us h.nx) (hB:B<=w.heap.size) {o:Oper} {op:XOp} {bf:List Nat} {ρ:Operand->Value} {ev:X->AV}
  (hc : b1e P bf o.dst o.op=some op) (hev:∀ x y,b1f P x=some y->SimV P w S h loc (ev y) (ρ x)) (hevF:∀ x y,b8c P bf x=some y->SimV P w S h loc (ev y) (ρ x)) (he:eff op ev h=some (r,h')) :
  b4k P B S loc h w (execOp ρ o) r h':=by
 obtain ⟨dst,op0,type,pos,after,guard⟩:=o
 simp only at hc
 unfold execOp
 cases op0 with
 | move x =>
  simp only [b1e,mE9] at hc
  obtain ⟨y,hy,rfl⟩:=hc
  simp only [eff,iE9,Prod.mk.injEq] at he; obtain ⟨rfl,rfl⟩:=he
  exact b4k.pure H (hev _ _ hy)
 | assign x =>
  simp only [b1e,mE9] at hc
  obtain ⟨y,hy,rfl⟩:=hc
  simp only [eff,iE9,Prod.mk.injEq] at he; obtain ⟨rfl,rfl⟩:=he
  exact b4k.pure H (hev _ _ hy)
 | pick c a b =>
  simp only [b1e,Option.bind_eq_bind,bE9,Option.pure_def,iE9] at hc
  obtain ⟨c',hc',a',ha',b',hb',rfl⟩:=hc
  simp only [eff] at he
  have hs:=hev _ _ hc'
  split at he
  ·rename_i t ht
   rw [ht] at hs
   have hq:ρ c = .bool t:=by generalize ρ c=q at hs; cases hs; rfl
   simp only [iE9,Prod.mk.injEq] at he; obtain ⟨rfl,rfl⟩:=he
   refine ⟨.value (if t then ρ a else ρ b),_,w,S,loc,?_,.inl rfl,.refl H,?_⟩
   ·simp only [hq]; simp [asBool]
   ·cases t
    ·exact hev _ _ hb'
    ·exact hev _ _ ha'
  ·cases he
 | alloc e =>
  simp only [b1e,bE9] at hc
  obtain ⟨zs,hz,hc⟩:=hc
  split at hc
  ·cases hc
  rename_i hne
  simp only [iE9] at hc; subst hc
  simp only [eff,iE9,Prod.mk.injEq] at he; obtain ⟨rfl,rfl⟩:=he
  exact (l28 H (hnx (Nat.lt_succ_self _)) hB e hz (by simpa using hne)).next
 | box e x =>
  simp only [b1e,mE9] at hc
  obtain ⟨y,hy,rfl⟩:=hc
  split at he
  ·simp [eff] at he
  ·simp only [eff] at he
   split at he
   ·rename_i hok
    simp only [iE9,Prod.mk.injEq] at he; obtain ⟨rfl,rfl⟩:=he
    exact (l3a H (hnx (Nat.lt_succ_self _)) hB e (hev _ _ hy) hok.1 hok.2).next
   ·cases he
 | build t ps =>
  simp only [b1e,Option.bind_eq_bind,bE9] at hc
  obtain ⟨zs,hz,hc⟩:=hc
  obtain ⟨it,z,hit,hzo,_,_⟩:=c7g hz
  have fin:∀ (place:Nat->Option (Nat × Nat)) (parts:List (Nat × Nat × X)),d1h P place ps=some parts->op = .build zs parts ->
    (∀ parts cells z,(P.info? t).bind (·.zero)=some z->Instr.fill place z.cells parts=some cells->P.built t parts=some cells) ->
    b4k P B S loc h w (do pure (.value (<- Instr.build t (ps.map fun (i,x)=>(i,ρ x))))) r h':=by
   intro place parts hp hop hbuilt
   subst hop
   obtain ⟨hpl,hpi⟩:=c7v _ ps.toList parts hp
   simp only [eff,bE9] at he
   obtain ⟨qs,hqs,he⟩:=he
   split at he
   ·rename_i hall
    simp only [iE9,Prod.mk.injEq] at he; obtain ⟨rfl,rfl⟩:=he
    have := l3c H hz place hbuilt (parts.map fun p=>(p.1,p.2.1,ev p.2.2)) (ps.toList.map fun p=>(p.1,ρ p.2)) (by simp [hpl]) (fun k off sz x i v hk hk'=>by
     simp only [List.getElem?_map,mE9,Prod.mk.injEq] at hk hk'
     obtain ⟨p,hp1,h1,h2,h3⟩:=hk
     obtain ⟨q,hq1,h4,h5⟩:=hk'
     obtain ⟨q',hq',hf⟩:=hpi k p hp1
     rw [hq1] at hq'; cases hq'
     obtain ⟨qi,qx⟩:=q
     simp only [bE9,mE9] at hf
     obtain ⟨⟨o1,s1⟩,hpl',y,hy,rfl⟩:=hf
     simp only at h1 h2 h3 h4 h5
     subst h1 h2 h3 h4 h5
     exact ⟨hpl',hev _ _ hy⟩) hqs (fun p hp=>by have:=List.all_eq_true.1 hall p hp; simpa using this)
    have e1:(ps.map fun (i,x)=>(i,ρ x))=((ps.toList.map fun p=>(p.1,ρ p.2)).toArray):=by
     apply Array.ext'; simp
    rw [e1]
    exact this.next
   ·cases he
  split at hc
  ·rename_i fs ht
   simp only [bE9,Option.pure_def,iE9] at hc
   obtain ⟨sizes,hsz,parts,hp,rfl⟩:=hc
   refine fin (sizes[·]?) parts hp rfl fun parts' cells z' hz' hf=>?_
   rw [hit] at hz'; simp only [bS9] at hz'
   unfold Program.built
   have hsz':fs.toList.mapM (fun f=>(P.info? f.type).map fun i=>(f.offset,i.size))=some sizes:=by
    rw [<- hsz]; congr 1; funext f; unfold b1x; cases P.info? f.type <;> rfl
   rw [hit,ht]
   simp only [hz',hsz']
   rw [<- hf]
   congr 1
   funext x; simp
  ·rename_i n e ht
   simp only [bE9,Option.pure_def,iE9] at hc
   obtain ⟨s,hs,parts,hp,rfl⟩:=hc
   refine fin _ parts hp rfl fun parts' cells z' hz' hf=>?_
   rw [hit] at hz'; simp only [bS9] at hz'
   unfold Program.built
   unfold b1x at hs
   cases hie:P.info? e with
   | none=>simp [hie] at hs
   | some ie =>
    simp [hie] at hs
    rw [hit,ht]
    simp only [hz',hie,hs]
    exact hf
  ·cases hc
 | buildSlice t len ps =>
  simp only [b1e] at hc
  split at hc
  ·rename_i e ht
   simp only [Option.bind_eq_bind,bE9] at hc
   obtain ⟨s,hs,zs,hz,hc⟩:=hc
   split at hc
   ·rename_i hcond
    obtain ⟨hs0,hzl,hfit,hidx⟩:=hcond
    simp only [bE9,Option.pure_def,iE9] at hc
    obtain ⟨xs,hxs,rfl⟩:=hc
    by_cases hbf:(dst.map bf.contains).getD false=true
    ·rw [if_pos hbf] at he
     simp only [eff] at he
     split at he
     ·rename_i hall
      simp only [iE9,Prod.mk.injEq] at he; obtain ⟨rfl,rfl⟩:=he
      have hxs':(ps.toList.map (·.2)).mapM (b1f P)=some xs:=by rw [List.mapM_map]; exact hxs
      have hl:=s3x hev hxs'
      have hlen:len=((ps.toList.map (·.2)).map ρ).length:=by
       have := congrArg List.length hidx; simpa using this.symm
      have := J4g (zs:=zs) H hB ht hs hz hzl hs0 hl (by rw [<- hlen]; exact hfit) (fun x hx=>by
       have := List.all_eq_true.1 hall x hx; simpa using this)
      rw [<- hlen] at this
      have e1:(ps.map fun (i,x)=>(i,ρ x))=((((ps.toList.map (·.2)).map ρ).zipIdx.map fun p=>(p.2,p.1)).toArray):=by
       apply Array.ext'
       simp only [Array.toList_map]
       apply List.ext_getElem?
       intro j
       simp only [List.getElem?_map,List.getElem?_zipIdx,Nat.zero_add]
       cases hj:ps.toList[j]? with
       | none=>simp
       | some p =>
        have hjl:j<len:=by
         have := (gS9.1 hj).1
         have h2:=congrArg List.length hidx
         simp at h2 this; omega
        have h1:(ps.toList.map (·.1))[j]?=(List.range len)[j]?:=by rw [hidx]
        simp only [List.getElem?_map,hj,Option.map_some,List.getElem?_range hjl,iE9] at h1
        obtain ⟨p1,p2⟩:=p
        simp only at h1; subst h1; simp
      show b4k P B S loc h w (do pure (.value (<- Instr.buildSlice t len (ps.map fun (i,x)=>(i,ρ x))))) _ _
      rw [e1]
      have h2:=this.next
      simpa using h2
     ·cases he
    ·rw [if_neg hbf] at he
     simp only [eff] at he
     split at he
     ·rename_i hall
      simp only [iE9,Prod.mk.injEq] at he; obtain ⟨rfl,rfl⟩:=he
      have hxs':(ps.toList.map (·.2)).mapM (b1f P)=some xs:=by rw [List.mapM_map]; exact hxs
      have hl:=s3x hev hxs'
      have hlen:len=((ps.toList.map (·.2)).map ρ).length:=by
       have := congrArg List.length hidx; simpa using this.symm
      have := l3b (zs:=zs) H (hnx (Nat.lt_succ_self _)) hB ht hs hz hzl hs0 hl (by rw [<- hlen]; exact hfit) (fun x hx=>by
       have := List.all_eq_true.1 hall x hx; simpa using this)
      rw [<- hlen] at this
      have e1:(ps.map fun (i,x)=>(i,ρ x))=((((ps.toList.map (·.2)).map ρ).zipIdx.map fun p=>(p.2,p.1)).toArray):=by
       apply Array.ext'
       simp only [Array.toList_map]
       apply List.ext_getElem?
       intro j
       simp only [List.getElem?_map,List.getElem?_zipIdx,Nat.zero_add]
       cases hj:ps.toList[j]? with
       | none=>simp
       | some p =>
        have hjl:j<len:=by
         have := (gS9.1 hj).1
         have h2:=congrArg List.length hidx
         simp at h2 this; omega
        have h1:(ps.toList.map (·.1))[j]?=(List.range len)[j]?:=by rw [hidx]
        simp only [List.getElem?_map,hj,Option.map_some,List.getElem?_range hjl,iE9] at h1
        obtain ⟨p1,p2⟩:=p
        simp only at h1; subst h1; simp
      show b4k P B S loc h w (do pure (.value (<- Instr.buildSlice t len (ps.map fun (i,x)=>(i,ρ x))))) _ _
      rw [e1]
      have h2:=this.next
      simpa using h2
     ·cases he
   ·cases hc
  ·cases hc
 | load t a =>
  simp only [b1e,Option.bind_eq_bind,bE9,Option.pure_def,iE9] at hc
  obtain ⟨n,hn,y,hy,rfl⟩:=hc
  obtain ⟨hut,hn⟩:=b34 hn
  obtain ⟨rfl,ho,_⟩:=g2g H hut hn (hevF _ _ hy) he
  exact (ho.out H).next
 | store t a x =>
  simp only [b1e,Option.bind_eq_bind,bE9,Option.pure_def,iE9] at hc
  obtain ⟨n,hn,y,hy,z,hz,rfl⟩:=hc
  have hr:r = .dead:=by
   simp only [eff] at he
   split at he
   ·simp only [bE9] at he
    obtain ⟨_,_,_,_,he⟩:=he
    split at he <;> cases he
    rfl
   ·cases he
  subst hr
  obtain ⟨w',S',loc',hrun,u⟩:=l3p H hn (hev _ _ hy) (hev _ _ hz) he
  refine ⟨.skip,undef,w',S',loc',?_,.inr ⟨rfl,rfl⟩,u,.dead _⟩
  show (do Instr.storeAt t (ρ a) (ρ x); Pure.pure Next.skip:Sem Next).run P w=_
  simp [hrun]
 | nilCheck x =>
  simp only [b1e,mE9] at hc
  obtain ⟨y,hy,rfl⟩:=hc
  obtain ⟨rfl,hr,hs⟩:=l3n (o:={ dst:=dst,op:=.nilCheck x,type:=type,pos:=pos,after:=after,guard:=guard }) (ρ:=ρ) (hevF _ _ hy) rfl he rfl
  exact ⟨_,_,w,S,loc,hr,.inl rfl,.refl H,hs⟩
 | binOp op t x y _ =>
  simp only [b1e,Option.bind_eq_bind,bE9,Option.pure_def,iE9] at hc
  obtain ⟨a,ha,b,hb,rfl⟩:=hc
  simp only [eff,mE9,Prod.mk.injEq] at he
  obtain ⟨r',hr',rfl,rfl⟩:=he
  exact g6m H (hev _ _ ha) (hev _ _ hb) x y hr'
 | unOp op t x =>
  simp only [b1e,mE9] at hc
  obtain ⟨y,hy,rfl⟩:=hc
  simp only [eff,mE9,Prod.mk.injEq] at he
  obtain ⟨r',hr',rfl,rfl⟩:=he
  obtain ⟨z,rfl,hz⟩:=r4j (hev _ _ hy) hr'
  exact (b1m.same H hz (.v z)).next
 | convert src d x =>
  simp only [b1e] at hc
  split at hc
  ·rename_i k hd
   simp only [bE9] at hc
   obtain ⟨y,hy,hop⟩:=hc
   split at hop
   ·rename_i hsrc
    cases hop
    simp only [eff] at he
    have hs:=hev _ _ hy
    split at he
    ·rename_i q n hn
     rw [hn] at hs
     simp only [iE9,Prod.mk.injEq] at he; obtain ⟨rfl,rfl⟩:=he
     have hx:ρ x = .int q n:=by generalize ρ x=z at hs; cases hs; rfl
     have hik:P.intKind d=k:=by simp [Program.intKind,hd]
     have hrun:=run_convert_int (P:=P) w src d q n hsrc (by rw [hik]; exact hd)
     rw [hik] at hrun
     show b4k P B S loc h w (do pure (.value (<- convert src d (ρ x)))) _ _
     rw [hx]
     exact (b1m.same H hrun (.v _)).next
    ·cases he
   ·cases hop
  ·exfalso
   split at hc
   ·simp only [mE9] at hc
    obtain ⟨y,_,rfl⟩:=hc
    simp only [eff,reduceCtorEq] at he
   ·cases hc
  ·exfalso
   split at hc
   ·simp only [mE9] at hc
    obtain ⟨y,_,rfl⟩:=hc
    simp only [eff,reduceCtorEq] at he
   ·cases hc
  ·cases hc
 | makeFunc fn first caps =>
  cases fn with
  | func f =>
   simp only [b1e,Option.bind_eq_bind,bE9,Option.pure_def,iE9] at hc
   obtain ⟨name,hname,xs,hxs,ys,hys,rfl⟩:=hc
   simp only [eff,iE9,Prod.mk.injEq] at he; obtain ⟨rfl,rfl⟩:=he
   have := (l3l H hname (s3x hev hxs) (s3x hev hys)).next
   have e:∀ l:Array Operand,(l.toList.map ρ).toArray=l.map ρ:=fun l=>by apply Array.ext'; simp
   rw [e,e] at this
   exact this
  | _=>simp [b1e] at hc
 | makeSlice t l c =>
  simp only [b1e] at hc
  split at hc
  ·rename_i e ht
   simp only [Option.bind_eq_bind,bE9] at hc
   obtain ⟨s,hs,zs,hz,hc⟩:=hc
   split at hc
   ·rename_i hcond
    simp only [bE9,Option.pure_def,iE9] at hc
    obtain ⟨b,hb,y,hy,z,hz2,rfl⟩:=hc
    exact (l3m H hnx hB ht hs hz hcond.2 hcond.1 hb (hev _ _ hy) (hev _ _ hz2) he).next
   ·cases hc
  ·cases hc
 | slice t x lo hi mx =>
  cases mx with
  | some _=>simp [b1e] at hc
  | none =>
   simp only [b1e] at hc
   split at hc
   ·rename_i e ht
    simp only [Option.bind_eq_bind,bE9] at hc
    obtain ⟨s,hs,l,hl,r2,hr2,hc⟩:=hc
    simp only [Option.pure_def,bE9,iE9] at hc
    obtain ⟨y,hy,rfl⟩:=hc
    by_cases hq:(bf.contains 3000001 && l.isSome && r2.isNone)=true
    ·rw [if_pos hq] at he
     simp [eff] at he
    rw [if_neg hq] at he
    have os:∀ (q:Option Operand) (q':Option X),c2c P q=some q'->OSim P w S h loc (q'.map ev) (q.map ρ):=by
     intro q q' hq
     cases q with
     | none=>simp [c2c] at hq; subst hq; exact .none
     | some a =>
      simp only [c2c,mE9] at hq
      obtain ⟨z,hz,rfl⟩:=hq
      exact .some (hev _ _ hz)
    simp only [eff] at he
    obtain ⟨rfl,ho⟩:=l3o H ht hs (os lo l hl) (os hi r2 hr2) he (hev _ _ hy)
    exact ho.next
   ·cases hc
 | fieldAddr t x f =>
  simp only [b1e] at hc
  split at hc
  ·rename_i fs ht
   simp only [Option.bind_eq_bind,bE9] at hc
   obtain ⟨fl,hf,hc⟩:=hc
   split at hc
   ·cases hc
   ·rename_i hsz
    simp only [bE9,Option.pure_def,iE9] at hc
    obtain ⟨y,hy,rfl⟩:=hc
    obtain ⟨rfl,ho⟩:=l3e H ht hf hsz (hevF _ _ hy) he
    exact ho.next
  ·cases hc
 | field t x f =>
  simp only [b1e] at hc
  split at hc
  ·rename_i fs ht
   simp only [Option.bind_eq_bind,bE9,Option.pure_def,iE9] at hc
   obtain ⟨fl,hf,n,hn,y,hy,rfl⟩:=hc
   have hs:=hev _ _ hy
   simp only [eff] at he
   split at he
   ·rename_i cs hcs
    rw [hcs] at hs
    have hx:∃ vs,ρ x = .agg vs/\SimV P w S h loc (.agg cs) (.agg vs):=by generalize ρ x=z at hs; cases hs with|agg _ vs a b c=>exact ⟨vs,rfl,.agg _ vs a b c⟩
    obtain ⟨vs,hx,hs⟩:=hx
    cases hs with
    | agg _ _ hl h1 hcc =>
     obtain ⟨rfl,ho⟩:=g2j H (b34 hn).1 (b34 hn).2 hl h1 hcc he
     show b4k P B S _ _ w (do pure (.value (<- Instr.field t (ρ x) f))) _ _
     obtain ⟨v,w',S',loc',hr,u,hv⟩:=ho
     refine ⟨.value v,v,w',S',loc',?_,.inl rfl,u,hv⟩
     simp [Instr.field,run_underlying ht,hf,hx,asAgg,hr]
   ·cases he
  ·cases hc
 | indexAddr t x i =>
  simp only [b1e] at hc
  split at hc
  ·rename_i e ht
   simp only [Option.bind_eq_bind,bE9] at hc
   obtain ⟨s,hs,hc⟩:=hc
   split at hc
   ·cases hc
   ·simp only [bE9,Option.pure_def,iE9] at hc
    obtain ⟨y,hy,z,hz,rfl⟩:=hc
    obtain ⟨rfl,ho⟩:=l3f H ht hs (hevF _ _ hy) (hev _ _ hz) he
    exact ho.next
  ·rename_i n e ht
   simp only [Option.bind_eq_bind,bE9] at hc
   obtain ⟨s,hs,hc⟩:=hc
   split at hc
   ·cases hc
   ·simp only [bE9,Option.pure_def,iE9] at hc
    obtain ⟨y,hy,z,hz,rfl⟩:=hc
    obtain ⟨rfl,ho⟩:=l3g H ht hs (hev _ _ hy) (hev _ _ hz) he
    exact ho.next
  ·cases hc
 | index t x i =>
  simp only [b1e] at hc
  split at hc
  ·rename_i n e ht
   simp only [Option.bind_eq_bind,bE9,Option.pure_def,iE9] at hc
   obtain ⟨s,hs,y,hy,z,hz,rfl⟩:=hc
   obtain ⟨rfl,ho⟩:=l3i H ht (b34 hs).1 (b34 hs).2 (hev _ _ hy) (hev _ _ hz) he
   exact ho.next
  ·rename_i ht
   simp only [Option.bind_eq_bind,bE9,Option.pure_def,iE9] at hc
   obtain ⟨y,hy,z,hz,rfl⟩:=hc
   obtain ⟨rfl,ho⟩:=l3h H ht (hev _ _ hy) (hev _ _ hz) he
   exact ho.next
  ·cases hc
 | extract t i =>
  simp only [b1e,mE9] at hc
  obtain ⟨y,hy,rfl⟩:=hc
  obtain ⟨rfl,ho⟩:=l3d H (hev _ _ hy) he
  exact ho.next
 | call c =>
  obtain ⟨callee,args,argTypes⟩:=c
  cases callee with
  | invoke _ _=>simp [b1e] at hc
  | value f =>
   cases f with
   | tmp t=>simp only [b1e,Option.bind_eq_bind,bE9,Option.pure_def,iE9] at hc; obtain ⟨_,_,hc⟩:=hc; split at hc <;> (subst hc; simp [eff] at he)
   | func f=>simp only [b1e,Option.bind_eq_bind,bE9,Option.pure_def,iE9] at hc; obtain ⟨_,_,_,_,hc⟩:=hc; split at hc <;> (subst hc; simp [eff] at he)
   | _=>simp [b1e] at hc
  | builtin b =>
   have hb:∀ {m:Sem Value} {r:AV} {h':Heap},builtin b argTypes type (args.map fun | .const _=>true|_=>false) (args.map ρ)=(do pure (.value (<- m)))->b1m P B S loc h w m r h' ->
     b4k P B S loc h w (do let d <- resolve ρ ⟨.builtin b,args,argTypes⟩ type; invoke d.target d.args) r h':=by
    intro m r h' hm ho
    obtain ⟨n,v,w',S',loc',hr,h2⟩:=ho.next
    refine ⟨n,v,w',S',loc',?_,h2⟩
    rw [<- hr,<- hm]
    simp only [resolve,Sem.run_bind,Sem.run_pure,Result.andThen_ok,invoke]
    rfl
   cases b with
   | len =>
    simp only [b1e] at hc
    split at hc
    ·rename_i x t hx ht
     rw [c9n hx,c9n ht] at hb ⊢
     split at hc
     ·rename_i hu
      simp only [mE9] at hc
      obtain ⟨y,hy,rfl⟩:=hc
      obtain ⟨rfl,ho⟩:=l3k (ty:=type) H hu (hev _ _ hy) (by simp only [eff,if_true] at he; exact he)
      exact hb (by simp [builtin]) ho
     ·rename_i e hu
      simp only [mE9] at hc
      obtain ⟨y,hy,rfl⟩:=hc
      obtain ⟨rfl,ho⟩:=l3j (ty:=type) H hu (hev _ _ hy) (by simp only [eff,fT9,if_false] at he; exact he)
      exact hb (by simp [builtin]) ho
     ·cases hc
    ·cases hc
   | min =>
    simp only [b1e,Option.bind_eq_bind,bE9,Option.pure_def,iE9] at hc
    obtain ⟨xs,hxs,rfl⟩:=hc
    simp only [eff,mE9,Prod.mk.injEq] at he
    obtain ⟨r',hr',rfl,rfl⟩:=he
    refine hb rfl ?_
    have := g2i H b7h Builtin.min2 (fun x y u v r a b c=>l49 a b c) (s3x hev hxs) hr' "min: at least one argument expected"
    have e:(args.map ρ).toList=args.toList.map ρ:=by simp
    unfold Builtin.min_
    rw [e]; exact this
   | max =>
    simp only [b1e,Option.bind_eq_bind,bE9,Option.pure_def,iE9] at hc
    obtain ⟨xs,hxs,rfl⟩:=hc
    simp only [eff,mE9,Prod.mk.injEq] at he
    obtain ⟨r',hr',rfl,rfl⟩:=he
    refine hb rfl ?_
    have := g2i H b7f Builtin.max2 (fun x y u v r a b c=>l48 a b c) (s3x hev hxs) hr' "max: at least one argument expected"
    have e:(args.map ρ).toList=args.toList.map ρ:=by simp
    unfold Builtin.max_
    rw [e]; exact this
   | append =>
    simp only [b1e] at hc
    split at hc
    ·rename_i s x t u hx ht
     rw [c9o hx,c9o ht] at hb ⊢
     split at hc
     ·rename_i e e2 hu1 hu2
      simp only [Option.bind_eq_bind,bE9] at hc
      obtain ⟨sz,hsz,zs,hz,by_,hby,hc⟩:=hc
      split at hc
      ·rename_i hcond
       obtain ⟨hs0,hzl,hb1⟩:=hcond
       simp only [bE9,Option.pure_def,iE9] at hc
       obtain ⟨ys,hys,yx,hyx,rfl⟩:=hc
       refine hb (m:=Builtin.append_ #[t,u] type #[ρ s,ρ x]) (by simp [builtin]) ?_
       exact g56 H hnx hB hu1 hu2 hsz hz hzl hs0 hby hb1 (hev _ _ hys) (hev _ _ hyx) he
      ·cases hc
     ·exfalso
      simp only [Option.bind_eq_bind,bE9] at hc
      obtain ⟨sz,_,zs,_,by_,_,hc⟩:=hc
      split at hc
      ·split at hc
       ·simp only [bE9,mE9] at hc
        obtain ⟨_,_,_,_,rfl⟩:=hc
        simp only [eff,reduceCtorEq] at he
       ·cases hc
      ·cases hc
     ·cases hc
    ·cases hc
   | copy =>
    exfalso
    simp only [b1e,Option.bind_eq_bind] at hc
    split at hc
    ·split at hc
     ·split at hc
      ·simp only [bE9,mE9] at hc
       obtain ⟨_,_,_,_,rfl⟩:=hc
       simp [eff] at he
      ·cases hc
     ·cases hc
    ·cases hc
   | cap =>
    exfalso
    simp only [b1e] at hc
    split at hc
    ·split at hc
     ·simp only [mE9] at hc
      obtain ⟨y,_,rfl⟩:=hc
      simp only [eff,reduceCtorEq] at he
     ·cases hc
    ·cases hc
   | _=>simp [b1e] at hc
 | makeInterface _ _=>simp only [b1e,iE9] at hc; subst hc; simp only [eff,reduceCtorEq] at he
 | panic _=>simp only [b1e,iE9] at hc; subst hc; simp only [eff,reduceCtorEq] at he
 | insert t m k v =>
  exfalso
  simp only [b1e,Option.bind_eq_bind] at hc
  split at hc
  ·simp only [bE9,Option.pure_def,iE9] at hc
   obtain ⟨p,_,_,_,_,_,_,_,rfl⟩:=hc
   simp only [eff,reduceCtorEq] at he
  ·cases hc
 | makeMap m rs =>
  exfalso
  simp only [b1e] at hc
  split at hc <;> first|cases hc|skip
  all_goals simp only [eff,reduceCtorEq] at he
 | lookup t m x ok =>
  exfalso
  simp only [b1e,Option.bind_eq_bind] at hc
  split at hc
  ·simp only [bE9,Option.pure_def,iE9] at hc
   obtain ⟨p,_,zs,_,_,_,_,_,rfl⟩:=hc
   simp only [eff,reduceCtorEq] at he
  ·cases hc
 | mapUpdate t m k v =>
  exfalso
  simp only [b1e,Option.bind_eq_bind] at hc
  split at hc
  ·simp only [bE9,Option.pure_def,iE9] at hc
   obtain ⟨p,_,_,_,_,_,_,_,rfl⟩:=hc
   simp only [eff,reduceCtorEq] at he
  ·cases hc
 | _=>simp [b1e] at hc
end
end Go.Nw
