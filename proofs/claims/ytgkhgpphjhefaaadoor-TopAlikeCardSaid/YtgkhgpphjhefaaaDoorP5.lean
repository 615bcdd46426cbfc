/- Plain laws on the models. -/
import Derived.Test.YtgkhgpphjhefaaaDoorUM
import Derived.Test.YtgkhgpphjhefaaaDoorNwTypes
import Derived.Test.YtgkhgpphjhefaaaDoorP3
import Derived.Test.YtgkhgpphjhefaaaDoorKH1
import Derived.Test.YtgkhgpphjhefaaaDoorP4
set_option linter.all false
namespace Go.Nw.UM
variable [Bd]
def c68 (x:ByteArray):Prop:=x.size<=Bd.B
theorem l4q {r:List AV} (h:MtL [.s] r):∃ x:ByteArray,r=eS x/\c68 x:=by
 obtain ⟨a0,r0,rfl,h0,g0⟩:=b3e h
 obtain ⟨v0,rfl,k0⟩:=d4c h0
 exact ⟨v0,by rw [b6o g0]; rfl,k0⟩
theorem g1x {a:AV} (h:Mt (.sl [.s]) a):∃ l:List ByteArray,a = .fs 1 (l.map eS)/\OkL c68 l:=by
 obtain ⟨l,rfl,h1,h2⟩:=b8q eS c68 h fun r hr=>l4q hr
 exact ⟨l,rfl,h1,h2⟩
def r8n (x:Counter):Prop:=c68 x.Name/\b5k x.Max
theorem l4l {r:List AV} (h:MtL [.s,.i .i64] r):∃ x:Counter,r=b0o x/\r8n x:=by
 obtain ⟨a0,r0,rfl,h0,g0⟩:=b3e h
 obtain ⟨a1,r1,rfl,h1,g1⟩:=b3e g0
 obtain ⟨v0,rfl,k0⟩:=d4c h0
 obtain ⟨v1,rfl,k1⟩:=b6n h1
 exact ⟨⟨v0,v1⟩,by rw [b6o g1]; rfl,⟨k0,k1⟩⟩
theorem j8e {a:AV} (h:Mt (.sl [.s,.i .i64]) a):∃ l:List Counter,a = .fs 2 (l.map b0o)/\OkL r8n l:=by
 obtain ⟨l,rfl,h1,h2⟩:=b8q b0o r8n h fun r hr=>l4l hr
 exact ⟨l,rfl,h1,h2⟩
def y9d (x:State):Prop:=c68 x.Name/\b5k x.Shows
theorem l4s {r:List AV} (h:MtL [.s,.i .i64] r):∃ x:State,r=b0p x/\y9d x:=by
 obtain ⟨a0,r0,rfl,h0,g0⟩:=b3e h
 obtain ⟨a1,r1,rfl,h1,g1⟩:=b3e g0
 obtain ⟨v0,rfl,k0⟩:=d4c h0
 obtain ⟨v1,rfl,k1⟩:=b6n h1
 exact ⟨⟨v0,v1⟩,by rw [b6o g1]; rfl,⟨k0,k1⟩⟩
theorem j8i {a:AV} (h:Mt (.sl [.s,.i .i64]) a):∃ l:List State,a = .fs 2 (l.map b0p)/\OkL y9d l:=by
 obtain ⟨l,rfl,h1,h2⟩:=b8q b0p y9d h fun r hr=>l4s hr
 exact ⟨l,rfl,h1,h2⟩
def b5x (x:Literal):Prop:=b5k x.Kind/\b5k x.Number/\b5k x.Value/\True
theorem l4n {r:List AV} (h:MtL [.i .i64,.i .i64,.i .i64,.b] r):∃ x:Literal,r=b3k x/\b5x x:=by
 obtain ⟨a0,r0,rfl,h0,g0⟩:=b3e h
 obtain ⟨a1,r1,rfl,h1,g1⟩:=b3e g0
 obtain ⟨a2,r2,rfl,h2,g2⟩:=b3e g1
 obtain ⟨a3,r3,rfl,h3,g3⟩:=b3e g2
 obtain ⟨v0,rfl,k0⟩:=b6n h0
 obtain ⟨v1,rfl,k1⟩:=b6n h1
 obtain ⟨v2,rfl,k2⟩:=b6n h2
 obtain ⟨v3,rfl,k3⟩:=j8k h3
 exact ⟨⟨v0,v1,v2,v3⟩,by rw [b6o g3]; rfl,⟨k0,k1,k2,k3⟩⟩
theorem j8f {a:AV} (h:Mt (.sl [.i .i64,.i .i64,.i .i64,.b]) a):∃ l:List Literal,a = .fs 4 (l.map b3k)/\OkL b5x l:=by
 obtain ⟨l,rfl,h1,h2⟩:=b8q b3k b5x h fun r hr=>l4n hr
 exact ⟨l,rfl,h1,h2⟩
theorem l4m {r:List AV} (h:MtL [.sl [.i .i64,.i .i64,.i .i64,.b]] r):∃ x:List Literal,r=b0t x/\OkL b5x x:=by
 obtain ⟨a0,r0,rfl,h0,g0⟩:=b3e h
 obtain ⟨v0,rfl,k0⟩:=j8f h0
 exact ⟨v0,by rw [b6o g0]; rfl,k0⟩
theorem d4b {a:AV} (h:Mt (.sl [.sl [.i .i64,.i .i64,.i .i64,.b]]) a):∃ l:List (List Literal),a = .fs 1 (l.map b0t)/\OkL (OkL b5x) l:=by
 obtain ⟨l,rfl,h1,h2⟩:=b8q b0t (OkL b5x) h fun r hr=>l4m hr
 exact ⟨l,rfl,h1,h2⟩
def z15 (x:Set):Prop:=b5k x.Kind/\b5k x.Counter
theorem l4r {r:List AV} (h:MtL [.i .i64,.i .i64] r):∃ x:Set,r=b2o x/\z15 x:=by
 obtain ⟨a0,r0,rfl,h0,g0⟩:=b3e h
 obtain ⟨a1,r1,rfl,h1,g1⟩:=b3e g0
 obtain ⟨v0,rfl,k0⟩:=b6n h0
 obtain ⟨v1,rfl,k1⟩:=b6n h1
 exact ⟨⟨v0,v1⟩,by rw [b6o g1]; rfl,⟨k0,k1⟩⟩
theorem j8h {a:AV} (h:Mt (.sl [.i .i64,.i .i64]) a):∃ l:List Set,a = .fs 2 (l.map b2o)/\OkL z15 l:=by
 obtain ⟨l,rfl,h1,h2⟩:=b8q b2o z15 h fun r hr=>l4r hr
 exact ⟨l,rfl,h1,h2⟩
def y9c (x:Rule):Prop:=b5k x.From/\b5k x.To/\OkL (OkL b5x) x.When/\OkL z15 x.Sets
theorem l4p {r:List AV} (h:MtL [.i .i64,.i .i64,.sl [.sl [.i .i64,.i .i64,.i .i64,.b]],.sl [.i .i64,.i .i64]] r):∃ x:Rule,r=b0m x/\y9c x:=by
 obtain ⟨a0,r0,rfl,h0,g0⟩:=b3e h
 obtain ⟨a1,r1,rfl,h1,g1⟩:=b3e g0
 obtain ⟨a2,r2,rfl,h2,g2⟩:=b3e g1
 obtain ⟨a3,r3,rfl,h3,g3⟩:=b3e g2
 obtain ⟨v0,rfl,k0⟩:=b6n h0
 obtain ⟨v1,rfl,k1⟩:=b6n h1
 obtain ⟨v2,rfl,k2⟩:=d4b h2
 obtain ⟨v3,rfl,k3⟩:=j8h h3
 exact ⟨⟨v0,v1,v2,v3⟩,by rw [b6o g3]; rfl,⟨k0,k1,k2,k3⟩⟩
theorem j8g {a:AV} (h:Mt (.sl [.i .i64,.i .i64,.sl [.sl [.i .i64,.i .i64,.i .i64,.b]],.sl [.i .i64,.i .i64]]) a):∃ l:List Rule,a = .fs 4 (l.map b0m)/\OkL y9c l:=by
 obtain ⟨l,rfl,h1,h2⟩:=b8q b0m y9c h fun r hr=>l4p hr
 exact ⟨l,rfl,h1,h2⟩
def b9d (x:Machine):Prop:=OkL c68 x.Inputs/\OkL c68 x.Outputs/\OkL r8n x.Counters/\OkL y9d x.States/\OkL y9c x.Rules
def g9z (x:Machine):List AV:=[.fs 1 (List.map eS x.Inputs),.fs 1 (List.map eS x.Outputs),.fs 2 (List.map b0o x.Counters),.fs 2 (List.map b0p x.States),.fs 4 (List.map b0m x.Rules)]
theorem l4o {r:List AV} (h:MtL [.sl [.s],.sl [.s],.sl [.s,.i .i64],.sl [.s,.i .i64],.sl [.i .i64,.i .i64,.sl [.sl [.i .i64,.i .i64,.i .i64,.b]],.sl [.i .i64,.i .i64]]] r):∃ x:Machine,r=g9z x/\b9d x:=by
 obtain ⟨a0,r0,rfl,h0,g0⟩:=b3e h
 obtain ⟨a1,r1,rfl,h1,g1⟩:=b3e g0
 obtain ⟨a2,r2,rfl,h2,g2⟩:=b3e g1
 obtain ⟨a3,r3,rfl,h3,g3⟩:=b3e g2
 obtain ⟨a4,r4,rfl,h4,g4⟩:=b3e g3
 obtain ⟨v0,rfl,k0⟩:=g1x h0
 obtain ⟨v1,rfl,k1⟩:=g1x h1
 obtain ⟨v2,rfl,k2⟩:=j8e h2
 obtain ⟨v3,rfl,k3⟩:=j8i h3
 obtain ⟨v4,rfl,k4⟩:=j8g h4
 exact ⟨⟨v0,v1,v2,v3,v4⟩,by rw [b6o g4]; rfl,⟨k0,k1,k2,k3,k4⟩⟩
def u1r (x:Record):Prop:=b5k x.From/\b5k x.To/\True/\OkL (OkL b5x) x.Cond
theorem u9e {r:List AV} (h:MtL [.i .i64,.i .i64,.b,.sl [.sl [.i .i64,.i .i64,.i .i64,.b]]] r):∃ x:Record,r=c26 x/\u1r x:=by
 obtain ⟨a0,r0,rfl,h0,g0⟩:=b3e h
 obtain ⟨a1,r1,rfl,h1,g1⟩:=b3e g0
 obtain ⟨a2,r2,rfl,h2,g2⟩:=b3e g1
 obtain ⟨a3,r3,rfl,h3,g3⟩:=b3e g2
 obtain ⟨v0,rfl,k0⟩:=b6n h0
 obtain ⟨v1,rfl,k1⟩:=b6n h1
 obtain ⟨v2,rfl,k2⟩:=j8k h2
 obtain ⟨v3,rfl,k3⟩:=d4b h3
 exact ⟨⟨v0,v1,v2,v3⟩,by rw [b6o g3]; rfl,⟨k0,k1,k2,k3⟩⟩
theorem u84 {a:AV} (h:Mt (.sl [.i .i64,.i .i64,.b,.sl [.sl [.i .i64,.i .i64,.i .i64,.b]]]) a):∃ l:List Record,a = .fs 4 (l.map c26)/\OkL u1r l:=by
 obtain ⟨l,rfl,h1,h2⟩:=b8q c26 u1r h fun r hr=>u9e hr
 exact ⟨l,rfl,h1,h2⟩
def u1s (x:Theory):Prop:=b5k x.Input/\b5k x.Value/\b5k x.From
abbrev d43:List Sh:=[.sl [.s],.sl [.s],.sl [.s,.i .i64],.sl [.s,.i .i64],.sl [.i .i64,.i .i64,.sl [.sl [.i .i64,.i .i64,.i .i64,.b]],.sl [.i .i64,.i .i64]]]
theorem l52 {a:AV} (h:MtA (.agg d43) a):∃ x:Machine,a = .agg [.fs 1 (List.map eS x.Inputs),.fs 1 (List.map eS x.Outputs),.fs 2 (List.map b0o x.Counters),.fs 2 (List.map b0p x.States),.fs 4 (List.map b0m x.Rules)]/\b9d x:=by
 obtain ⟨r,rfl,hr⟩:=g1y h
 obtain ⟨x,rfl,hx⟩:=l4o hr
 exact ⟨x,rfl,hx⟩
def L1v (x:neweltop_Alike):Prop:=OkL (OkL b5x) x.Assume/\b5k x.Ticks/\OkL u1r x.Records/\u1s x.Theory
def L2o (x:neweltop_Alike):List AV:=[.fs 1 (List.map b0t x.Assume),I x.Ticks,.fs 4 (List.map c26 x.Records),I x.Theory.Input,I x.Theory.Value,I x.Theory.From]
theorem L2u {r:List AV} (h:MtL [.sl [.sl [.i .i64,.i .i64,.i .i64,.b]],.i .i64,.sl [.i .i64,.i .i64,.b,.sl [.sl [.i .i64,.i .i64,.i .i64,.b]]],.i .i64,.i .i64,.i .i64] r):∃ x:neweltop_Alike,r=L2o x/\L1v x:=by
 obtain ⟨a0,r0,rfl,h0,g0⟩:=b3e h
 obtain ⟨a1,r1,rfl,h1,g1⟩:=b3e g0
 obtain ⟨a2,r2,rfl,h2,g2⟩:=b3e g1
 obtain ⟨a3,r3,rfl,h3,g3⟩:=b3e g2
 obtain ⟨a4,r4,rfl,h4,g4⟩:=b3e g3
 obtain ⟨a5,r5,rfl,h5,g5⟩:=b3e g4
 obtain ⟨v0,rfl,k0⟩:=d4b h0
 obtain ⟨v1,rfl,k1⟩:=b6n h1
 obtain ⟨v2,rfl,k2⟩:=u84 h2
 obtain ⟨v3,rfl,k3⟩:=b6n h3
 obtain ⟨v4,rfl,k4⟩:=b6n h4
 obtain ⟨v5,rfl,k5⟩:=b6n h5
 exact ⟨⟨v0,v1,v2,⟨v3,v4,v5⟩⟩,by rw [b6o g5]; rfl,⟨k0,k1,k2,⟨k3,k4,k5⟩⟩⟩
abbrev L14:List Sh:=[.sl [.sl [.i .i64,.i .i64,.i .i64,.b]],.i .i64,.sl [.i .i64,.i .i64,.b,.sl [.sl [.i .i64,.i .i64,.i .i64,.b]]],.i .i64,.i .i64,.i .i64]
theorem L2y {a:AV} (h:MtA (.agg L14) a):∃ x:neweltop_Alike,a = .agg [.fs 1 (List.map b0t x.Assume),I x.Ticks,.fs 4 (List.map c26 x.Records),I x.Theory.Input,I x.Theory.Value,I x.Theory.From]/\L1v x:=by
 obtain ⟨r,rfl,hr⟩:=g1y h
 obtain ⟨x,rfl,hx⟩:=L2u hr
 exact ⟨x,rfl,hx⟩
end Go.Nw.UM
namespace Go.Nw.UM
section
variable [Bd]
theorem l5y {m:Machine} (h:b9d m):∀ n∈b3g m,n.size<=maxLen:=by
 obtain ⟨h1,h2,h3,h4,h5⟩:=h
 intro n hn
 have hB:=Bd.le
 simp only [b3g,List.mem_append,List.mem_map] at hn
 rcases hn with ((hn|hn)|⟨c,hc,rfl⟩)|⟨c,hc,rfl⟩
 ·exact Nat.le_trans (h1.2 n hn) hB
 ·exact Nat.le_trans (h2.2 n hn) hB
 ·exact Nat.le_trans (h3.2 c hc).1 hB
 ·exact Nat.le_trans (h4.2 c hc).1 hB
end
end Go.Nw.UM
namespace Go.Nw.UM
noncomputable section
theorem o82 {m:Machine} (hs:SizesOk m):c1y ⟨m⟩=some ((2 ^ m.Inputs.length:Nat):Int):=by
 unfold c1y
 have := hs.i
 simp only
 rw [c83 (by omega)]; simp
theorem o8p {α:Type} {l:List α} {k:Nat} {x z:α} (h:l[k]?=some x):l.getD k z=x:=by
 rw [List.getD_eq_getElem?_getD,h]; rfl
section
variable [Bd]
end
end
end Go.Nw.UM
namespace Go.Nw.UM
noncomputable section
def hs (i v:Nat) (x:Nat):Int:=(b6a x i v).getD 0
section
variable [Bd]
end
end
end Go.Nw.UM
namespace Go.Nw.UM
noncomputable section
theorem d9s (x:Nat):b6a x (-1) 0=some (idn x):=g5p x
section
variable {m:Machine} {c rest:List (List Literal)} {K:Nat}
end
section
variable [Bd]
end
end
end Go.Nw.UM
namespace Go.Nw.UM
noncomputable section
section
variable [Bd]
end
end
end Go.Nw.UM
namespace Go.Nw.UM
noncomputable section
def plc (m:Machine) (hd:Nat->Int) (p:Place) (l:List Int):Nat->Place
 | 0=>p
 | k+1=>nxt m (plc m hd p l k) (hd (l.getD k 0).toNat)
section
variable {m:Machine} {c never:List (List Literal)} {hd:Nat->Int}
def p2u (m:Machine) (c:List (List Literal)) (hd:Nat->Int) (l:List Int):Prop:=∀ (k:Nat) x,l[k]?=some x->OkX m x/\c25 m (plc m hd zero l k) x c=true
inductive Dp (s:S3):Nat->Nat->Prop
 | z:Dp s 0 0
 | s {k b n:Nat} (hk:1<=k) (hb:s.2.1[k]?=some (b:Int)) (h:Dp s b n):Dp s k (n+1)
structure Bo (i:Int) (s:S3):Prop where
 l : ∀ (j:Nat) b,s.2.1[j]?=some b->b<=i
 m : ∀ (j j':Nat) b b',j<=j'->s.2.1[j]?=some b->s.2.1[j']?=some b'->b<=b'
theorem Bo.up {i i':Int} {s:S3} (h:Bo i s) (hi:i<=i'):Bo i' s:=⟨fun j b hb=>Int.le_trans (h.l j b hb) hi,h.m⟩
end
end
end Go.Nw.UM
namespace Go.Nw.UM
noncomputable section
theorem p3c {m:Machine} (x:Nat) (hx:x<2 ^ m.Inputs.length):b6a x (-1) 0=some (idn x)/\OkX m (idn x):=⟨d9s x,by
 have : ((2 ^ m.Inputs.length:Nat):Int)=2 ^ m.Inputs.length:=by simp
 unfold OkX In; show 0<=(x:Int)/\(x:Int)<_; omega⟩
section
variable [Bd]
end
end
end Go.Nw.UM
namespace Go.Nw.UM
noncomputable section
abbrev S4:=List control_pair × List (List Int)
def s3p (s:S4) (run:List Int) (x:Nat) (q:control_pair):S4:=if q∈s.1 then s else (s.1++[q],s.2++[run++[(x:Int)]])
section
variable (a b:Machine) (c:List (List Literal))
def nx2 (p:control_pair) (x:Nat):control_pair:=⟨nxt a p.a (idn x),nxt b p.b (idn x)⟩
def s8k (p:control_pair) (run:List Int):Nat->S4->S4
 | 0,s=>s
 | x+1,s=>if c25 a p.a x c=true then s3p (s8k p run x s) run x (nx2 a b p x) else s8k p run x s
def b49:Nat->S4
 | 0=>([⟨zero,zero⟩],[[]])
 | k+1=>match (b49 k).1[k]?,(b49 k).2[k]? with
  | some p,some r=>s8k a b c p r (2 ^ a.Inputs.length) (b49 k)
  | _,_=>b49 k
def r4a (r:List Int) (p:control_pair):Prop:=p2u a c idn r/\p=⟨plc a idn zero r r.length,plc b idn zero r r.length⟩
structure G4 (s:S4):Prop where
 n : s.1.Nodup
 o : ∀ p∈s.1,OkP a p.a/\OkP b p.b
 l : s.2.length=s.1.length
 g : ∀ (k:Nat) p r,s.1[k]?=some p->s.2[k]?=some r->r4a a b c r p/\r.length<=k
end
variable {a b:Machine} {c:List (List Literal)}
theorem r1t {m:Machine} {hd:Nat->Int} {p:Place} {l:List Int} {x:Int}:∀ k,k<=l.length->plc m hd p (l++[x]) k=plc m hd p l k
 | 0,_=>rfl
 | k+1,h=>by
  unfold plc
  rw [r1t k (by omega),List.getD_eq_getElem?_getD,List.getD_eq_getElem?_getD,List.getElem?_append_left (by omega)]
theorem r25 {m:Machine} {hd:Nat->Int} {p:Place} {l:List Int} {x:Int}:plc m hd p (l++[x]) (l++[x]).length=nxt m (plc m hd p l l.length) (hd x.toNat):=by
 rw [List.length_append,List.length_singleton]
 conv => lhs; unfold plc
 rw [r1t _ (Nat.le_refl _),List.getD_eq_getElem?_getD]
 simp
theorem r3v {m:Machine} {l:List Int} {x:Nat} (h:p2u m c idn l) (hx:x<2 ^ m.Inputs.length) (ha:c25 m (plc m idn zero l l.length) x c=true):p2u m c idn (l++[(x:Int)]):=fun k y hy=>by
 by_cases hk:k<l.length
 ·rw [List.getElem?_append_left hk] at hy
  rw [r1t k (by omega)]
  exact h k y hy
 ·have := b1k hy
  simp only [List.length_append,List.length_singleton] at this
  have e:k=l.length:=by omega
  subst e
  simp only [List.getElem?_append_right (Nat.le_refl _),Nat.sub_self,List.getElem?_cons_zero,iE9] at hy
  subst hy
  rw [r1t _ (Nat.le_refl _)]
  exact ⟨(p3c x hx).2,ha⟩
theorem r3i (ha:OkM a) (hb:OkM b) {s:S4} (h:G4 a b c s) {i x:Nat} {p:control_pair} {r:List Int} (hp:s.1[i]?=some p) (hr:s.2[i]?=some r) (hx:x<2 ^ a.Inputs.length) (hal:c25 a p.a x c=true):G4 a b c (s3p s r x (nx2 a b p x)):=by
 unfold s3p
 split
 ·exact h
 rename_i hn
 have ho:=h.o p (b1d.2 ⟨i,hp⟩)
 obtain ⟨⟨h1,h2⟩,h3⟩:=h.g i p r hp hr
 refine ⟨?_,fun q hq=>?_,by simp [h.l],fun k q t hq ht=>?_⟩
 ·rw [List.nodup_append]
  exact ⟨h.n,by simp,fun u hu v hv e=>by simp at hv; subst hv; exact hn (e ▸ hu)⟩
 ·rcases List.mem_append.1 hq with hq|hq
  ·exact h.o q hq
  ·simp at hq; subst hq; exact ⟨s1f ha ho.1 _,s1f hb ho.2 _⟩
 ·by_cases hk:k<s.1.length
  ·rw [List.getElem?_append_left hk] at hq
   rw [List.getElem?_append_left (by rw [h.l]; exact hk)] at ht
   exact h.g k q t hq ht
  ·have := b1k hq
   simp only [List.length_append,List.length_singleton] at this
   have e:k=s.1.length:=by omega
   subst e
   simp only [List.getElem?_append_right (Nat.le_refl _),Nat.sub_self,List.getElem?_cons_zero,iE9] at hq
   rw [<- h.l] at ht
   simp only [List.getElem?_append_right (Nat.le_refl _),Nat.sub_self,List.getElem?_cons_zero,iE9] at ht
   subst hq; subst ht
   have e1:p.a=plc a idn zero r r.length:=by rw [h2]
   have e2:p.b=plc b idn zero r r.length:=by rw [h2]
   refine ⟨⟨r3v h1 hx (by rw [<- e1]; exact hal),?_⟩,by have:=b1k hp; simp; omega⟩
   rw [r25,r25,<- e1,<- e2]; rfl
theorem r2m (s:S4) (r:List Int) (x:Nat) (q:control_pair):s.1 <+: (s3p s r x q).1/\s.2 <+: (s3p s r x q).2:=by
 unfold s3p; split
 ·exact ⟨List.prefix_refl _,List.prefix_refl _⟩
 ·exact ⟨List.prefix_append _ _,List.prefix_append _ _⟩
theorem r1e {p:control_pair} {r:List Int}:∀ (x:Nat) {s:S4},s.1 <+: (s8k a b c p r x s).1/\s.2 <+: (s8k a b c p r x s).2
 | 0,s=>⟨List.prefix_refl _,List.prefix_refl _⟩
 | x+1,s=>by
  have ih:=r1e (p:=p) (r:=r) x (s:=s)
  unfold s8k; split
  ·have := r2m (s8k a b c p r x s) r x (nx2 a b p x)
   exact ⟨ih.1.trans this.1,ih.2.trans this.2⟩
  ·exact ih
theorem r2a (ha:OkM a) (hb:OkM b) {i:Nat} {p:control_pair} {r:List Int}:∀ (x:Nat) {s:S4},x<=2 ^ a.Inputs.length->G4 a b c s->s.1[i]?=some p->s.2[i]?=some r->G4 a b c (s8k a b c p r x s)
 | 0,s,_,h,_,_=>h
 | x+1,s,hx,h,hp,hr=>by
  have ih:=r2a ha hb (p:=p) (r:=r) x (s:=s) (by omega) h hp hr
  have pre:=r1e (a:=a) (b:=b) (c:=c) (p:=p) (r:=r) x (s:=s)
  unfold s8k; split
  ·rename_i hal
   exact r3i ha hb ih (c0r pre.1 hp) (c0r pre.2 hr) (by omega) hal
  ·exact ih
theorem r2y {p:control_pair} {r:List Int} {j:Nat} (hal:c25 a p.a j c=true):∀ (x:Nat) {s:S4},j<x->nx2 a b p j∈(s8k a b c p r x s).1
 | 0,s,h=>by omega
 | x+1,s,h=>by
  by_cases e:j=x
  ·subst e; unfold s8k; rw [if_pos hal]
   unfold s3p; split
   ·assumption
   ·simp
  ·have ih:=r2y (r:=r) hal x (s:=s) (by omega)
   unfold s8k; split
   ·exact (r2m _ _ _ _).1.subset ih
   ·exact ih
theorem r08 (ha:OkM a) (hb:OkM b):∀ k,G4 a b c (b49 a b c k)
 | 0=>by
  refine ⟨by simp [b49],fun p hp=>by simp [b49] at hp; subst hp; exact ⟨o5b ha,o5b hb⟩,rfl,fun k p r hp hr=>?_⟩
  cases k with
  | zero =>
   simp only [b49,List.getElem?_cons_zero,iE9] at hp hr
   subst hp; subst hr
   exact ⟨⟨fun k x hx=>by simp at hx,rfl⟩,Nat.le_refl _⟩
  | succ k=>simp [b49] at hp
 | k+1=>by
  have ih:=r08 ha hb k
  unfold b49
  split
  ·rename_i p r hp hr; exact r2a ha hb _ (Nat.le_refl _) ih hp hr
  ·exact ih
theorem r21 (k:Nat):(b49 a b c k).1 <+: (b49 a b c (k+1)).1/\(b49 a b c k).2 <+: (b49 a b c (k+1)).2:=by
 conv => rhs; rhs; unfold b49
 conv => lhs; rhs; unfold b49
 split
 ·exact r1e _
 ·exact ⟨List.prefix_refl _,List.prefix_refl _⟩
theorem r09 {j k:Nat} (h:j<=k):(b49 a b c j).1 <+: (b49 a b c k).1/\(b49 a b c j).2 <+: (b49 a b c k).2:=by
 induction k with
 | zero =>
  have : j=0:=by omega
  subst this; exact ⟨List.prefix_refl _,List.prefix_refl _⟩
 | succ k ih =>
  by_cases e:j=k+1
  ·subst e; exact ⟨List.prefix_refl _,List.prefix_refl _⟩
  ·have := ih (by omega); have h1:=r21 (a:=a) (b:=b) (c:=c) k
   exact ⟨this.1.trans h1.1,this.2.trans h1.2⟩
theorem r2o {m:Machine} (hm:OkM m) {p:Place} (hp:OkP m p):0<=p.State/\p.State<12/\0<=p.Values.1/\p.Values.1<=7/\0<=p.Values.2/\p.Values.2<=7:=by
 have hs:=hm.z.s
 have := hp.s; have:=hp.a; have:=hp.b; have:=b57 hm.c 0; have:=b57 hm.c 1
 unfold In at *
 omega
theorem r2h (ha:OkM a) (hb:OkM b) {s:S4} (h:G4 a b c s):s.1.length<=589824:=by
 have hc:∀ p∈s.1,_:=fun p hp=>And.intro (r2o ha (h.o p hp).1) (r2o hb (h.o p hp).2)
 have h1:=d4k 589824 (s.1.map fun p=>(p.a.State * 64+p.a.Values.1 * 8+p.a.Values.2).toNat * 768+(p.b.State * 64+p.b.Values.1 * 8+p.b.Values.2).toNat) (l1z h.n fun p hp q hq e=>by
   have := hc p hp; have:=hc q hq
   obtain ⟨⟨s1,a1,b1⟩,⟨s2,a2,b2⟩⟩:=p; obtain ⟨⟨s3,a3,b3⟩,⟨s4,a4,b4⟩⟩:=q
   simp only at *
   have e1:s1=s3:=by omega
   have e2:a1=a3:=by omega
   have e3:b1=b3:=by omega
   have e4:s2=s4:=by omega
   have e5:a2=a4:=by omega
   have e6:b2=b4:=by omega
   subst e1; subst e2; subst e3; subst e4; subst e5; subst e6; rfl) (fun x hx=>by
   obtain ⟨p,hp,rfl⟩:=List.mem_map.1 hx
   have := hc p hp
   omega)
 simpa using h1
def r14 (a b:Machine) (c:List (List Literal)) (K:Nat):Prop:=K<=589824/\(∀ k,k<K->k<(b49 a b c k).1.length)/\(b49 a b c K).1.length<=K
theorem r4f (ha:OkM a) (hb:OkM b):∃ K,r14 a b c K:=by
 have hbd:∀ k,(b49 a b c k).1.length<=589824:=fun k=>r2h ha hb (r08 ha hb k)
 have key:∀ d,(∃ K,K<=d/\(∀ k,k<K->k<(b49 a b c k).1.length)/\(b49 a b c K).1.length<=K)\/∀ k,k<=d->k<(b49 a b c k).1.length:=by
  intro d
  induction d with
  | zero =>
   by_cases h:(b49 a b c 0).1.length<=0
   ·exact .inl ⟨0,Nat.le_refl _,fun k hk=>by omega,h⟩
   ·refine .inr fun k hk=>?_
    have : k=0:=by omega
    subst this; omega
  | succ d ih =>
   rcases ih with ⟨K,h1,h2⟩|h
   ·exact .inl ⟨K,by omega,h2⟩
   ·by_cases h':(b49 a b c (d+1)).1.length<=d+1
    ·exact .inl ⟨d+1,Nat.le_refl _,fun k hk=>h k (by omega),h'⟩
    ·refine .inr fun k hk=>?_
     by_cases e:k=d+1
     ·subst e; omega
     ·exact h k (by omega)
 rcases key 589824 with h|h
 ·exact h
 ·have := h 589824 (Nat.le_refl _); have:=hbd 589824; omega
end
end Go.Nw.UM
namespace Go.Nw.UM
noncomputable section
def s3n (l:List control_pair):List (control_pair × Int):=l.zipIdx.map fun p=>(p.1,(p.2:Int))
theorem r2u (l:List control_pair):(s3n l).map (·.1)=l:=by
 unfold s3n
 rw [List.map_map]
 have : ((fun x:control_pair × Int=>x.1) ∘ fun p:control_pair × Nat=>(p.1,(p.2:Int)))=Prod.fst:=rfl
 rw [this,List.zipIdx_map_fst]
theorem r3x (l:List control_pair) (q:control_pair):s3n (l++[q])=s3n l++[(q,(l.length:Int))]:=by
 unfold s3n
 rw [List.zipIdx_append]
 simp
theorem r2t {l:List control_pair} {q:control_pair}:b6m (s3n l) q=true ↔ q∈l:=by rw [j78,r2u]
theorem r1l {α:Type} {w:Nat} {l m:List α} (hl:l.length<=600000) (hm:m.length<=600000) (hb:w<=64):ap w l m=some (l++m):=b9k (by
 have : (l.length+m.length) * w<=1200000 * 64:=Nat.mul_le_mul (by omega) hb
 omega)
theorem r4b {n:Nat} (h:n<=600000):n<=maxLen:=by simp only [maxLen]; omega
theorem r3r {l:List Int} (h:l.length<=600000):r15 l=some l:=by
 cases l with
 | nil=>rfl
 | cons x l =>
  unfold r15 r1w
  simp only [r1h,bS9,fT9,if_false]
  rw [r1l (by simp) h (by omega)]; rfl
def sh (m:Machine) (p:Place):Int:=((m.States[p.State.toNat]?).map (·.Shows)).getD 0
theorem r2i {m:Machine} {p:Place} (hp:OkP m p):∃ s,get m.States p.State=some s/\s.Shows=sh m p:=by
 obtain ⟨k,s,hk,hx,hg⟩:=d2l hp.s
 refine ⟨s,hg,?_⟩
 unfold sh
 rw [hk,Int.toNat_natCast,hx]; rfl
section
variable {a b:Machine} {c:List (List Literal)}
theorem r37 (ha:OkM a) (hb:OkM b) {ins:Bool} (hc:b2s a ins c) {i:Nat} {p:control_pair} {r:List Int} {s:S4} (h:G4 a b c s) (hp:s.1[i]?=some p) (hr:s.2[i]?=some r) :
  b0w (r03 a b c i p ((2 ^ a.Inputs.length:Nat):Int)) (s.2,s.1,s3n s.1,0)=some ((s8k a b c p r (2 ^ a.Inputs.length) s).2,(s8k a b c p r (2 ^ a.Inputs.length) s).1,s3n (s8k a b c p r (2 ^ a.Inputs.length) s).1):=by
 have hpow:=p2a ha.z
 have ho:=h.o p (b1d.2 ⟨i,hp⟩)
 refine b4h (f:=r03 a b c i p ((2 ^ a.Inputs.length:Nat):Int)) (2 ^ a.Inputs.length) (fun (s:S4) k=>(s.2,s.1,s3n s.1,k)) (fun k=>s8k a b c p r k s) _ (s0:=s) rfl (fun k hk=>?_) ?_
 ·have hg':=r2a ha hb (p:=p) (r:=r) k (by omega) h hp hr
  have hlen:=r2h ha hb hg'
  have hpre:=r1e (a:=a) (b:=b) (c:=c) (p:=p) (r:=r) k (s:=s)
  have hr':=c0r hpre.2 hr
  have hrl:=(hg'.g i p r (c0r hpre.1 hp) hr').2
  have hil:=b1k (c0r hpre.1 hp)
  have hl2:=hg'.l
  conv => rhs; unfold s8k
  unfold r03 r04
  simp only [Int.ofNat_lt,hk,decide_true,if_true,show b3h a=⟨⟨a⟩⟩ from rfl,show b3h b=⟨⟨b⟩⟩ from rfl,c74,g5i ha.z ho.1.s hc,bS9,b2r hk (b1o (by omega))]
  cases hal:c25 a p.a k c with
  | false=>simp
  | true =>
   simp only [Bool.not_true,fT9,if_false,if_true]
   rw [g5u ha ho.1,bS9,g5u hb ho.2,bS9]
   unfold s3p
   by_cases hq:nx2 a b p k∈(s8k a b c p r k s).1
   ·rw [if_pos hq,if_neg]
    rw [show control_pair.mk (nxt a p.a (k:Int)) (nxt b p.b (k:Int))=nx2 a b p k from rfl,r2t.2 hq]; simp
   ·have hnh:b6m (s3n (s8k a b c p r k s).1) (nx2 a b p k)=false:=x0f fun h=>hq (r2t.1 h)
    rw [if_neg hq,if_pos (by rw [show control_pair.mk (nxt a p.a (k:Int)) (nxt b p.b (k:Int))=nx2 a b p k from rfl,hnh]; rfl),r1l (by omega) (by simp) (by omega),bS9,b1h hr',bS9,r3r (by omega),bS9,r1l (by omega) (by simp) (by omega),bS9,r1l (by omega) (by simp) (by omega),bS9,
     g1w (by rw [r2u]; exact hq),<- r3x]
    rfl
 ·unfold r03
  simp only [Int.lt_irrefl,decide_false,fT9,if_false]
def dif (a b:Machine) (c:List (List Literal)) (K k:Nat):Bool:=decide (sh a ((b49 a b c K).1.getD k ⟨zero,zero⟩).a≠sh b ((b49 a b c K).1.getD k ⟨zero,zero⟩).b)
theorem r4e (ha:OkM a) (hb:OkM b) {ins:Bool} (hc:b2s a ins c) {K:Nat} (hK:r14 a b c K):∀ d k:Nat,K - k=d->k<=K->(∀ j,j<k->dif a b c K j=false) ->
  b0w (s3v a b c) ((b49 a b c k).2,(b49 a b c k).1,s3n (b49 a b c k).1,(k:Int))=some (match b5q K (dif a b c K) with|some t=>.inr ((b49 a b c K).2.getD t [],false,0)|none=>.inl ()):=by
 obtain ⟨hK0,hK1,hK2⟩:=hK
 intro d
 induction d with
 | zero =>
  intro k h1 h2 h3
  obtain rfl:k=K:=by omega
  rw [d72.2 h3]
  refine b3d ?_
  unfold s3v
  have : ¬ ((k:Int)<(((b49 a b c k).1.length:Nat):Int)):=by omega
  simp only [this,decide_false,fT9,if_false]
 | succ d ih =>
  intro k h1 h2 h3
  have hkK:k<K:=by omega
  have hlt:=hK1 k hkK
  have hg:=r08 (c:=c) ha hb k
  obtain ⟨p,hp⟩:=b3b hlt
  obtain ⟨r,hr⟩:=b3b (l:=(b49 a b c k).2) (k:=k) (by rw [hg.l]; exact hlt)
  have ho:=hg.o p (b1d.2 ⟨k,hp⟩)
  have hpK:=c0r (r09 (a:=a) (b:=b) (c:=c) (show k<=K by omega)).1 hp
  have hrK:=c0r (r09 (a:=a) (b:=b) (c:=c) (show k<=K by omega)).2 hr
  obtain ⟨s1,g1,e1⟩:=r2i ho.1
  obtain ⟨s2,g2,e2⟩:=r2i ho.2
  have hd:dif a b c K k=decide (s1.Shows≠s2.Shows):=by unfold dif; rw [o8p hpK,e1,e2]
  cases hdk:dif a b c K k with
  | true =>
   rw [j01 hkK hdk h3]
   refine b3d ?_
   rw [hd] at hdk
   unfold s3v
   simp only [Int.ofNat_lt,hlt,decide_true,if_true,b1h hp,bS9,g1,g2]
   rw [if_pos hdk,b1h hr,bS9,o8p hrK]
  | false =>
   rw [<- ih (k+1) (by omega) (by omega) (fun j hj=>by
    by_cases e:j=k
    ·subst e; exact hdk
    ·exact h3 j (by omega))]
   rw [hd] at hdk
   refine w91 ?_
   have hlen:=r2h ha hb hg
   have hout:b49 a b c (k+1)=s8k a b c p r (2 ^ a.Inputs.length) (b49 a b c k):=by
    conv => lhs; unfold b49
    rw [hp,hr]
   unfold s3v r1n
   simp only [Int.ofNat_lt,hlt,decide_true,if_true,b1h hp,bS9,g1,g2]
   rw [if_neg (by rw [hdk]; simp),show b3h a=⟨⟨a⟩⟩ from rfl]
   simp only
   rw [o82 ha.z,bS9,r37 ha hb hc hg hp hr,bS9]
   simp only
   rw [b2r hkK (r4b (by omega)),<- hout]; rfl
theorem r3a {l r:List ByteArray} (hl:l.length<=maxLen):∃ b:Bool,r1a l r=some b/\(b=true ↔ l=r):=by
 unfold r1a r1x
 by_cases h:(l.length:Int)=(r.length:Int)
 case neg=>exact ⟨false,by rw [if_pos (by simpa using h)],by simp; intro e; rw [e] at h; exact h rfl⟩
 rw [if_neg (by simpa using h)]
 have hlr:l.length=r.length:=by omega
 rcases b4j (f:=r1k l r) (l:=l) (p:=fun k x=>¬ r[k]?=some x) (e:=.inr false) (u:=.inl ()) hl (fun k x hx=>by
   have hk:=b1k hx
   obtain ⟨y,hy⟩:=b3b (l:=r) (k:=k) (by omega)
   refine ⟨!(decide (x=y)),?_,by rw [hy,iE9,Bool.not_eq_true',decide_eq_false_iff_not]; exact ⟨fun h e=>h e.symm,fun h e=>h e.symm⟩⟩
   unfold r1k
   simp only [Int.ofNat_lt,hk,decide_true,if_true,b1h hx,b1h hy,bS9]) (by unfold r1k; simp only [Int.lt_irrefl,decide_false,fT9,if_false]) with ⟨h1,h2⟩|⟨⟨k,x,h1,h2⟩,h3⟩
 ·rw [h2]
  refine ⟨true,rfl,?_⟩
  simp only [true_iff]
  apply List.ext_getElem?
  intro k
  by_cases hk:k<l.length
  ·obtain ⟨x,hx⟩:=b3b hk
   rw [hx]; exact (Classical.not_not.1 (h1 k x hx)).symm
  ·rw [List.getElem?_eq_none (by omega),List.getElem?_eq_none (by omega)]
 ·rw [h3]
  refine ⟨false,rfl,?_⟩
  simp only [fT9,false_iff]
  intro e; subst e; exact h2 h1
end
end
end Go.Nw.UM
namespace Go.Nw.UM
noncomputable section
structure Ln (L:Nat) (s:S4):Prop where
 m : ∀ (j j':Nat) r r',j<=j'->s.2[j]?=some r->s.2[j']?=some r'->r.length<=r'.length
 u : ∀ (j:Nat) r,s.2[j]?=some r->r.length<=L
section
variable {a b:Machine} {c:List (List Literal)}
theorem r3j {s:S4} {r:List Int} {x:Nat} {q:control_pair} (h:Ln (r.length+1) s):Ln (r.length+1) (s3p s r x q):=by
 unfold s3p
 split
 ·exact h
 have key:∀ (j:Nat) t,(s.2++[r++[(x:Int)]])[j]?=some t->(j<s.2.length/\s.2[j]?=some t)\/(j=s.2.length/\t.length=r.length+1):=fun j t ht=>by
  by_cases hj:j<s.2.length
  ·rw [List.getElem?_append_left hj] at ht; exact .inl ⟨hj,ht⟩
  ·have := b1k ht
   simp only [List.length_append,List.length_singleton] at this
   have e:j=s.2.length:=by omega
   subst e
   simp only [List.getElem?_append_right (Nat.le_refl _),Nat.sub_self,List.getElem?_cons_zero,iE9] at ht
   subst ht
   exact .inr ⟨rfl,by simp⟩
 refine ⟨fun j j' t t' hj ht ht'=>?_,fun j t ht=>?_⟩
 ·rcases key j t ht with ⟨h1,h2⟩|⟨h1,h2⟩ <;> rcases key j' t' ht' with ⟨h3,h4⟩|⟨h3,h4⟩
  ·exact h.m j j' t t' hj h2 h4
  ·have := h.u j t h2; omega
  ·omega
  ·omega
 ·rcases key j t ht with ⟨h1,h2⟩|⟨h1,h2⟩
  ·exact h.u j t h2
  ·omega
theorem r2b {p:control_pair} {r:List Int}:∀ (x:Nat) {s:S4},Ln (r.length+1) s->Ln (r.length+1) (s8k a b c p r x s)
 | 0,s,h=>h
 | x+1,s,h=>by
  unfold s8k; split
  ·exact r3j (r2b x h)
  ·exact r2b x h
theorem r2g:∀ k,(∀ (j j':Nat) r r',j<=j'->(b49 a b c k).2[j]?=some r->(b49 a b c k).2[j']?=some r'->r.length<=r'.length) /\
  ∀ (j i:Nat) r ri,k<=i+1->(b49 a b c k).2[j]?=some r->(b49 a b c k).2[i]?=some ri->r.length<=ri.length+1
 | 0=>by
  have key:∀ (j:Nat) r,(b49 a b c 0).2[j]?=some r->r=[]:=fun j r h=>by
   cases j with
   | zero=>simpa [b49] using h.symm
   | succ j=>simp [b49] at h
  exact ⟨fun j j' r r' _ h h'=>by rw [key j r h,key j' r' h']; exact Nat.le_refl _,fun j i r ri _ h _=>by rw [key j r h]; simp⟩
 | k+1=>by
  obtain ⟨h1,h2⟩:=r2g k
  unfold b49
  split
  ·rename_i p r hp hr
   have hl:Ln (r.length+1) (b49 a b c k):=⟨h1,fun j t ht=>h2 j k t r (by omega) ht hr⟩
   have hl2:=r2b (a:=a) (b:=b) (c:=c) (p:=p) (2 ^ a.Inputs.length) hl
   refine ⟨hl2.m,fun j i t ti hi ht hti=>?_⟩
   have hrK:=c0r (r1e (a:=a) (b:=b) (c:=c) (p:=p) (r:=r) (2 ^ a.Inputs.length) (s:=b49 a b c k)).2 hr
   have := hl2.u j t ht
   have := hl2.m k i r ti (by omega) hrK hti
   omega
  ·rename_i hn
   refine ⟨h1,fun j i t ti hi ht hti=>?_⟩
   by_cases e:k<=i
   ·exact h2 j i t ti (by omega) ht hti
   ·omega
theorem r2v (ha:OkM a) (hb:OkM b) {K:Nat} (hK:r14 a b c K) (l:List Int) (hf:p2u a c idn l):∀ n,n<=l.length->∃ (j:Nat) (r:List Int),(b49 a b c K).1[j]?=some ⟨plc a idn zero l n,plc b idn zero l n⟩/\(b49 a b c K).2[j]?=some r/\r.length<=n
 | 0,_=>by
  have h:=r09 (a:=a) (b:=b) (c:=c) (Nat.zero_le K)
  exact ⟨0,[],c0r h.1 rfl,c0r h.2 rfl,Nat.le_refl _⟩
 | n+1,hn=>by
  obtain ⟨j,r,h1,h2,h3⟩:=r2v ha hb hK l hf n (by omega)
  have hjK:j<K:=by have:=b1k h1; have:=hK.2.2; omega
  obtain ⟨x,hx⟩:=b3b (l:=l) (k:=n) (by omega)
  obtain ⟨⟨hx0,hx1⟩,hal⟩:=hf n x hx
  have ex:((x.toNat:Nat):Int)=x:=Int.toNat_of_nonneg hx0
  have hpow:((2 ^ a.Inputs.length:Nat):Int)=2 ^ a.Inputs.length:=by simp
  have hlt:=hK.2.1 j hjK
  have hg:=r08 (c:=c) ha hb j
  obtain ⟨p',hp'⟩:=b3b hlt
  obtain ⟨r',hr'⟩:=b3b (l:=(b49 a b c j).2) (k:=j) (by rw [hg.l]; exact hlt)
  have hpre:=r09 (a:=a) (b:=b) (c:=c) (show j<=K by omega)
  have e1:=c0r hpre.1 hp'
  have e2:=c0r hpre.2 hr'
  rw [h1] at e1; rw [h2] at e2
  have e1:=Option.some.inj e1; have e2:=Option.some.inj e2
  subst e1; subst e2
  have hout:b49 a b c (j+1)=s8k a b c ⟨plc a idn zero l n,plc b idn zero l n⟩ r (2 ^ a.Inputs.length) (b49 a b c j):=by
   conv => lhs; unfold b49
   rw [hp',hr']
  have hmem:nx2 a b ⟨plc a idn zero l n,plc b idn zero l n⟩ x.toNat∈(b49 a b c (j+1)).1:=by
   rw [hout]
   exact r2y (by rw [ex]; exact hal) _ (by omega)
  obtain ⟨i,hi⟩:=b1d.1 hmem
  have hg1:=r08 (c:=c) ha hb (j+1)
  obtain ⟨t,ht⟩:=b3b (l:=(b49 a b c (j+1)).2) (k:=i) (by rw [hg1.l]; exact b1k hi)
  have hr1:=c0r (r21 (a:=a) (b:=b) (c:=c) j).2 hr'
  have hlen:=(r2g (a:=a) (b:=b) (c:=c) (j+1)).2 i j t r (Nat.le_refl _) ht hr1
  have hpre1:=r09 (a:=a) (b:=b) (c:=c) (show j+1<=K by omega)
  refine ⟨i,t,?_,c0r hpre1.2 ht,by omega⟩
  have := c0r hpre1.1 hi
  have e3:nx2 a b ⟨plc a idn zero l n,plc b idn zero l n⟩ x.toNat=⟨plc a idn zero l (n+1),plc b idn zero l (n+1)⟩:=by
   unfold nx2
   conv => rhs; unfold plc
   rw [o8p hx]
  rw [e3] at this
  exact this
def s88 (m:Machine) (l:List Int):Int:=sh m (plc m idn zero l l.length)
theorem r2s {m:Machine} {l:List Int}:p2u m [] idn l ↔ ∀ x∈l,OkX m x:=by
 constructor
 ·intro h x hx
  obtain ⟨k,hk⟩:=b1d.1 hx
  exact (h k x hk).1
 ·intro h k x hx
  exact ⟨h x (b1d.2 ⟨k,hx⟩),rfl⟩
theorem r2l (hfa:∀ n∈b3g a,n.size<=maxLen) (hfb:∀ n∈b3g b,n.size<=maxLen) (ha:OkM a) (hb:OkM b):∃ r,r02 a b []=some r /\
  ((r = ([],false,1)/\¬ (a.Inputs=b.Inputs/\a.Outputs=b.Outputs))\/(a.Inputs=b.Inputs/\a.Outputs=b.Outputs /\
   ((r = ([],true,0)/\∀ l,(∀ x∈l,OkX a x)->s88 a l=s88 b l) \/
    ∃ run,r=(run,false,0)/\(∀ x∈run,OkX a x)/\s88 a run≠s88 b run/\∀ l,(∀ x∈l,OkX a x)->s88 a l≠s88 b l->run.length<=l.length))):=by
 have hc:b2s a true []:=⟨by simp,fun t ht=>by simp at ht⟩
 obtain ⟨e1,h1,h1'⟩:=g5k hfa
 obtain ⟨e2,h2,h2'⟩:=g5k hfb
 obtain ⟨e3,h3,h3'⟩:=d6t hfa (l:=[[]]) (by simp)
 have z1:e1=0:=by rcases h1' with ⟨h,_⟩|⟨_,h⟩; exact h; exact absurd ha h
 have z2:e2=0:=by rcases h2' with ⟨h,_⟩|⟨_,h⟩; exact h; exact absurd hb h
 have z3:e3=0:=d6z h3' (.inl ⟨rfl,ha,fun x hx=>by simp at hx; subst hx; exact hc⟩)
 subst z1; subst z2; subst z3
 have h00:¬ (decide (¬ (0:Int)=0)=true):=by simp
 obtain ⟨b1,s1,s1'⟩:=r3a (l:=a.Inputs) (r:=b.Inputs) (b1o (by have:=ha.z.i; omega))
 obtain ⟨b2,s2,s2'⟩:=r3a (l:=a.Outputs) (r:=b.Outputs) (b1o (by have:=ha.z.o; omega))
 unfold r02 r1m
 rw [h1,bS9,if_neg h00,h2,bS9,if_neg h00,h3,bS9,if_neg h00,s1,bS9,s2]
 cases b1 with
 | false=>exact ⟨([],false,1),rfl,.inl ⟨rfl,fun h=>by simpa using s1'.2 h.1⟩⟩
 | true =>
 cases b2 with
 | false=>exact ⟨([],false,1),rfl,.inl ⟨rfl,fun h=>by simpa using s2'.2 h.2⟩⟩
 | true =>
 obtain ⟨K,hK⟩:=r4f (c:=[]) ha hb
 have hl:=r4e ha hb hc hK K 0 rfl (Nat.zero_le _) (fun j hj=>by omega)
 have e0:b0w (s3v a b []) ([]++[([]:List Int)],[control_pair.mk (Place.mk 0 (0,0)) (Place.mk 0 (0,0))],b3w ([]:List (control_pair × Int)) (control_pair.mk (Place.mk 0 (0,0)) (Place.mk 0 (0,0))) 0,0)=some (match b5q K (dif a b [] K) with|some t=>.inr ((b49 a b [] K).2.getD t [],false,0)|none=>.inl ()):=hl
 simp only [Bool.not_true,fT9,if_false,bS9]
 rw [e0,bS9]
 have hsh:∀ l,(∀ x∈l,OkX a x)->∃ j r,(b49 a b [] K).2[j]?=some r/\r.length<=l.length/\j<K/\(dif a b [] K j=true ↔ s88 a l≠s88 b l):=fun l hlx=>by
  obtain ⟨j,r,f1,f2,f3⟩:=r2v ha hb hK l (r2s.2 hlx) l.length (Nat.le_refl _)
  refine ⟨j,r,f2,f3,by have:=b1k f1; have:=hK.2.2; omega,?_⟩
  unfold dif s88
  rw [o8p f1,decide_eq_true_eq]
 cases hft:b5q K (dif a b [] K) with
 | none =>
  refine ⟨([],true,0),rfl,.inr ⟨s1'.1 rfl,s2'.1 rfl,.inl ⟨rfl,fun l hlx=>?_⟩⟩⟩
  obtain ⟨j,r,_,_,hj,hd⟩:=hsh l hlx
  have := d72.1 hft j hj
  refine Classical.byContradiction fun hne=>?_
  rw [hd.2 hne] at this; cases this
 | some t =>
  obtain ⟨t1,t2,t3⟩:=j00 hft
  have hg:=r08 (c:=[]) ha hb K
  have htl:t<(b49 a b [] K).1.length:=Nat.lt_of_lt_of_le (hK.2.1 t t1) (r09 (a:=a) (b:=b) (c:=[]) (show t<=K by omega)).1.length_le
  obtain ⟨p,hp⟩:=b3b htl
  obtain ⟨r,hr⟩:=b3b (l:=(b49 a b [] K).2) (k:=t) (by rw [hg.l]; exact htl)
  obtain ⟨⟨g1,g2⟩,g3⟩:=hg.g t p r hp hr
  refine ⟨((b49 a b [] K).2.getD t [],false,0),rfl,.inr ⟨s1'.1 rfl,s2'.1 rfl,.inr ⟨r,by rw [o8p hr],r2s.1 g1,?_,fun l hlx hne=>?_⟩⟩⟩
  ·unfold dif at t2
   rw [o8p hp,decide_eq_true_eq,g2] at t2
   exact t2
  ·obtain ⟨j,r',f1,f2,f3,f4⟩:=hsh l hlx
   have htj:t<=j:=Classical.byContradiction fun h=>by
    have := t3 j (by omega)
    rw [f4.2 hne] at this; cases this
   have := (r2g (a:=a) (b:=b) (c:=[]) K).1 t j r r' htj hr f1
   omega
end
end
end Go.Nw.UM
namespace Go.Nw.UM
noncomputable section
theorem u4a {a:Accident} {th:Theory} (ha:OkA a) (hth:OkT a th):(∃ w,Lst (K50 a th (fun _=>true) ftT) w/\u0k a th=some (toI w,true))\/((∀ w,¬ K50 a th (fun _=>true) ftT w)/\u0k a th=some ([],false)) :=
 u9k (keep:=fun _=>true) (ft:=ftT) ha hth (fun _ _=>rfl) (fun _ _ _ _ _ _=>rfl)
theorem u88 {a:Accident} {th:Theory} (hs:Small a) (hth:OkT a th):∃ b,(s8s a).bind (fun y=>z12 a th y)=some b/\(b=true ↔ ∃ w,K50 a th (fun _=>true) ftT w):=by
 have hn8:=hs.ok.n
 rw [u35 (by omega),bS9]
 obtain ⟨b,h1,h2⟩:=u89 (l:=List.range a.Records.length) hs hth (fun i hi=>List.mem_range.1 hi) (by rw [List.length_range]; exact hn8)
 refine ⟨b,h1,h2.trans ?_⟩
 exact ⟨fun ⟨w,hw⟩=>⟨w,(u3c fun i hi=>u3w hi).1 hw⟩,fun ⟨w,hw⟩=>⟨w,(u3c fun i hi=>u3w hi).2 hw⟩⟩
section
variable {a:Accident} {th:Theory} (hf:∀ n∈b3g a.Machine,n.size<=maxLen) (hn:a.Records.length<=10) (hs:J24 a≠0\/Small a)
include hf hn hs
theorem u6i:∃ r,u0g a th=some r/\u05 a th=some r/\((b32 a th≠0/\r=(false,b32 a th))\/(Small a/\OkT a th/\r.2=0/\(r.1=true ↔ ∃ w,K50 a th (fun _=>true) ftT w))):=by
 unfold u0g u05
 rw [u23 hf hn,u24 hf hn,bS9,bS9]
 by_cases he:b32 a th=0
 case neg=>rw [if_pos (by simpa using he),if_pos (by simpa using he)]; exact ⟨_,rfl,rfl,.inl ⟨he,rfl⟩⟩
 rw [if_neg (by simp [he]),if_neg (by simp [he])]
 obtain ⟨ha,hth⟩:=u27.1 he
 have hs':Small a:=by
  rcases hs with h|h
  ·exact absurd (u1v.2 ha) h
  ·exact h
 obtain ⟨b,h1,h2⟩:=u88 hs' hth
 have h1':((s8s a).bind fun y7=>(z12 a th y7).bind fun y8=>some (y8,(0:Int)))=some (b,0):=by
  obtain ⟨y,hy,hb⟩:=bE9.1 h1
  rw [hy,bS9,hb,bS9]
 rw [h1']
 rcases u4a ha hth with ⟨w,hw,h3⟩|⟨hw,h3⟩
 ·have : b=true:=h2.2 ⟨w,hw.1⟩
  subst this
  rw [h3,bS9]
  exact ⟨_,rfl,rfl,.inr ⟨hs',hth,rfl,h2⟩⟩
 ·have : b=false:=by
   cases b with
   | false=>rfl
   | true=>obtain ⟨w,h⟩:=h2.1 rfl; exact absurd h (hw w)
  subst this
  rw [h3,bS9]
  exact ⟨_,rfl,rfl,.inr ⟨hs',hth,rfl,h2⟩⟩
theorem u6f:∃ r,s9i a th=some r/\s8x a th=some r/\r.1.length<=40/\((b32 a th≠0/\r=([],b32 a th))\/(Small a/\OkT a th/\((∃ w,Lst (K50 a th (fun _=>true) ftT) w/\r=(toI w,0))\/((∀ w,¬ K50 a th (fun _=>true) ftT w)/\r=([],3))))):=by
 by_cases he:b32 a th=0
 case neg =>
  unfold s9i s8x
  rw [u23 hf hn,u24 hf hn,bS9,bS9,if_pos (by simpa using he),if_pos (by simpa using he)]; exact ⟨_,rfl,rfl,by simp,.inl ⟨he,rfl⟩⟩
 obtain ⟨ha,hth⟩:=u27.1 he
 have hs':Small a:=by
  rcases hs with h|h
  ·exact absurd (u1v.2 ha) h
  ·exact h
 have h6:=tA6 hs'
 unfold s9i
 rw [u23 hf hn,bS9,if_neg (by simp [he])]
 rcases u6g hs' hth hf with ⟨w,hw,hl,h1⟩|⟨hw,h1⟩
 ·rcases u4a ha hth with ⟨w',hw',h3⟩|⟨hw',h3⟩
  ·have := u8w hw hw'
   subst this
   rw [h3,h1]
   exact ⟨_,rfl,rfl,by show (toI w).length<=40; omega,.inr ⟨hs',hth,.inl ⟨w,hw,rfl⟩⟩⟩
  ·exact absurd hw.1 (hw' w)
 ·rcases u4a ha hth with ⟨w',hw',h3⟩|⟨hw',h3⟩
  ·exact absurd hw'.1 (hw w')
  ·rw [h3,h1]
   exact ⟨_,rfl,rfl,by simp,.inr ⟨hs',hth,.inr ⟨hw,rfl⟩⟩⟩
end
section
variable [Bd]
end
end
end Go.Nw.UM
namespace Go.Nw.UM
noncomputable section
def psb (a:Accident) (t:Theory):Bool:=@decide (∃ w,K50 a t (fun _=>true) ftT w) (Classical.propDecidable _)
theorem K6z {a:Accident} {t:Theory}:psb a t=true ↔ ∃ w,K50 a t (fun _=>true) ftT w:=by
 unfold psb; exact @decide_eq_true_iff _ (Classical.propDecidable _)
theorem K7g {n T:Nat} {t:Theory}:t∈l10 n T ↔ t=⟨-1,0,0⟩\/∃ i v k:Nat,i<n/\v<2/\k<T/\t=⟨i,v,k⟩:=by
 simp only [l10,List.mem_cons,List.mem_flatMap,List.mem_map,List.mem_range]
 constructor
 ·rintro (h|⟨i,hi,v,hv,k,hk,rfl⟩)
  ·exact .inl h
  ·exact .inr ⟨i,v,k,hi,hv,hk,rfl⟩
 ·rintro (h|⟨i,v,k,hi,hv,hk,rfl⟩)
  ·exact .inl h
  ·exact .inr ⟨i,hi,v,hv,k,hk,rfl⟩
theorem K7a {a:Accident} (ha:OkA a) {t:Theory}:t∈l10 a.Machine.Inputs.length (tA a) ↔ OkT a t:=by
 have hT:=s9b ha
 constructor
 ·intro h
  rcases K7g.1 h with rfl|⟨i,v,k,hi,hv,hk,rfl⟩
  ·rfl
  ·have hs:=ha.m.z.i
   unfold OkT l59
   rw [if_neg (by simp <;> omega)]
   have w1:wr ((a.Machine.Inputs.length:Int) - 1)=(a.Machine.Inputs.length:Int) - 1:=b3t (by omega) (by omega)
   have w2:wr (a.Ticks - 1)=a.Ticks - 1:=by have:=ha.t; exact b3t (by omega) (by omega)
   rw [w1,w2]
   simp only [b98,Bool.and_eq_true,decide_eq_true_eq]
   omega
 ·intro h
  rw [K7g]
  rcases u5f h ha with ⟨h1,h2,h3⟩|⟨⟨h1,h1'⟩,h2,h3⟩
  ·obtain ⟨x,y,z⟩:=t; simp only at h1 h2 h3; subst h1 h2 h3; exact .inl rfl
  ·obtain ⟨x,y,z⟩:=t; simp only at h1 h1' h2 h3
   refine .inr ⟨x.toNat,y.toNat,z.toNat,by omega,by omega,by omega,?_⟩
   simp only [Theory.mk.injEq]; omega
theorem K6q (n T:Nat):(l10 n T).length=1+n * (2 * T):=by
 have h1:∀ i:Nat,((List.range 2).flatMap fun (v:Nat)=>(List.range T).map fun (t:Nat)=>Theory.mk i v t).length=2 * T:=fun i=>by
  simp [List.range_succ]; omega
 have h2:∀ n:Nat,((List.range n).flatMap fun (i:Nat)=>(List.range 2).flatMap fun (v:Nat)=>(List.range T).map fun (t:Nat)=>Theory.mk i v t).length=n * (2 * T):=by
  intro n
  induction n with
  | zero=>simp
  | succ n ih=>rw [List.range_succ (n:=n),List.flatMap_append,List.length_append,ih,List.flatMap_cons,List.flatMap_nil,List.append_nil,h1,Nat.add_mul,Nat.one_mul]
 show _+1=_
 rw [h2]; omega
theorem K7p {a:Accident} (ha:OkA a):∀ l:List Theory,(∀ t∈l,OkT a t)->J34 a l=some (l.filter (psb a))
 | [],_=>rfl
 | t :: l,h=>by
  have ih:=K7p ha l fun x hx=>h x (List.mem_cons_of_mem _ hx)
  unfold J34
  rcases u4a ha (h t List.mem_cons_self) with ⟨w,hw,h3⟩|⟨hw,h3⟩
  ·have e:psb a t=true:=K6z.2 ⟨w,hw.1⟩
   rw [h3,bS9,ih,bS9,List.filter_cons_of_pos e]; rfl
  ·have e:¬ psb a t=true:=fun hp=>by
    obtain ⟨w,h⟩:=K6z.1 hp; exact hw w h
   rw [h3,bS9,ih,bS9,List.filter_cons_of_neg e]; rfl
def L1p (a:Accident):List Theory:=(l10 a.Machine.Inputs.length (tA a)).filter (psb a)
theorem K7z {a:Accident} (hf:∀ n∈b3g a.Machine,n.size<=maxLen) (ha:OkA a):K5r a=some (L1p a,0):=by
 have hT:=s9b ha
 have hi:=ha.m.z.i
 have ht:=ha.t
 unfold K5r
 rw [u6k hf (by have:=ha.n; omega),bS9,u1v.2 ha,if_neg (by simp),if_pos ⟨by omega,by omega,by omega⟩]
 have e:a.Ticks.toNat=tA a:=by omega
 rw [e,K7p ha _ fun t ht=>(K7a ha).1 ht]
 rfl
section
variable [Bd]
end
end
end Go.Nw.UM
namespace Go.Nw
theorem x55 {π:Type} {st:Nat->π->Nat->π}:∀ {w:List Nat} {t0 k x:Nat} {p:π},w[k]?=some x->pat st t0 p w (k+1)=st (t0+k) (pat st t0 p w k) x
 | [],t0,k,x,p,h=>by simp at h
 | y :: ys,t0,0,x,p,h=>by
  simp only [List.getElem?_cons_zero,iE9] at h
  subst h
  cases ys <;> rfl
 | y :: ys,t0,k+1,x,p,h=>by
  simp only [List.getElem?_cons_succ] at h
  show pat st (t0+1) (st t0 p y) ys (k+1)=st (t0+(k+1)) (pat st (t0+1) (st t0 p y) ys k) x
  rw [x55 h,show t0+1+k=t0+(k+1) by omega]
end Go.Nw
namespace Go.Nw.UM
noncomputable section
section
variable {a:Accident} {th:Theory} {l:List Nat} {want:Nat}
theorem x56:∀ (w:List Nat) (t0:Nat) (s0:Place × Nat) (k x:Nat),Rch a th l t0 s0->AcD a th l want w (t0,s0)->t0+w.length=tA a->w[k]?=some x ->
  ∃ s,Rch a th l (t0+k) s/\s.1=pat (stA a th) t0 s0.1 w k/\x<nA a/\∃ m',TD a th l (t0+k,s) x=some m'/\b64 a th l want m'
 | [],t0,s0,k,x,hR,hA,hlen,h=>by simp at h
 | y :: ys,t0,s0,k,x,hR,hA,hlen,h=>by
  rw [List.length_cons] at hlen
  obtain ⟨h1,m',h2,h3⟩:=(u1t (by show t0<tA a; omega)).1 hA
  cases k with
  | zero =>
   simp only [List.getElem?_cons_zero,iE9] at h
   subst h
   exact ⟨s0,hR,by cases ys <;> rfl,h1,m',h2,ys,h3⟩
  | succ k =>
   simp only [List.getElem?_cons_succ] at h
   obtain ⟨D',_,_,e⟩:=u1f h2
   subst e
   obtain ⟨s,g1,g2,g3,g4⟩:=x56 ys (t0+1) _ k x ⟨s0,hR,y,h1,h2⟩ h3 (by omega) h
   rw [show t0+1+k=t0+(k+1) by omega] at g1 g4
   exact ⟨s,g1,g2,g3,g4⟩
variable (hs:Small a) (hth:OkT a th)
include hs hth
end
section
variable {a:Accident} (hf:∀ n∈b3g a.Machine,n.size<=maxLen) (hn:a.Records.length<=10) (hs:J24 a≠0\/Small a)
include hf hn hs
end
section
variable [Bd]
end
end
end Go.Nw.UM
namespace Go.Nw
section
variable {π:Type} {From To:Nat->Nat} {Al keep:Nat->Bool} {hold:Nat->π->Nat->Bool} {st st':Nat->π->Nat->π} {ok:Nat->π->Nat->Bool} {N T n:Nat}
end
end Go.Nw
namespace Go.Nw.UM
noncomputable section
section
variable {a:Accident} {th:Theory} (hf:∀ n∈b3g a.Machine,n.size<=maxLen) (ha:OkA a) (hth:OkT a th)
include hf ha hth
end
end
end Go.Nw.UM
namespace Go.Nw.UM
noncomputable section
theorem z3k:((List.range 5).all fun n=>(List.range (2 ^ n)).all fun x=>(List.range n).all fun i=>(List.range 2).all fun v=>decide (((shl .i64 1 (i:Int)).bind fun q6=>(shl .i64 (v:Int) (i:Int)).bind fun q7=>some (decide (0<=bor (g6a (x:Int) q6) q7/\bor (g6a (x:Int) q6) q7<(2:Int) ^ n)))=some true))=true:=by decide +kernel
theorem z3l {n x i v:Nat} (hn:n<5) (hx:x<2 ^ n) (hi:i<n) (hv:v<2):((shl .i64 1 (i:Int)).bind fun q6=>(shl .i64 (v:Int) (i:Int)).bind fun q7=>some (decide (0<=bor (g6a (x:Int) q6) q7/\bor (g6a (x:Int) q6) q7<(2:Int) ^ n)))=some true:=by
 have g:=List.all_eq_true.1 z3k n (List.mem_range.2 hn)
 have g:=List.all_eq_true.1 g x (List.mem_range.2 hx)
 have g:=List.all_eq_true.1 g i (List.mem_range.2 hi)
 have g:=List.all_eq_true.1 g v (List.mem_range.2 hv)
 exact of_decide_eq_true g
section
variable {a:Accident} {th:Theory} (hf:∀ n∈b3g a.Machine,n.size<=maxLen) (ha:OkA a) (hth:OkT a th)
include ha hth
theorem z3j {t x:Nat} (hx:x<nA a):OkX a.Machine (hdT th t x):=by
 have hz:=ha.m.z.i
 unfold hdT hdO OkX In
 by_cases hc:(decide (th.Input<0) || decide ((t:Int)<th.From))=true
 ·rw [if_pos hc]
  show 0<=(x:Int)/\(x:Int)<_
  unfold nA at hx; constructor
  ·omega
  ·exact Int.ofNat_lt.2 hx
 ·rw [if_neg hc]
  rcases u5f hth ha with ⟨h,_⟩|⟨h1,h2,h3⟩
  ·simp at hc; omega
  unfold In at h1
  obtain ⟨i,hi2⟩:∃ i:Nat,th.Input=i:=⟨th.Input.toNat,by omega⟩
  obtain ⟨v,hv⟩:∃ v:Nat,th.Value=v:=⟨th.Value.toNat,by omega⟩
  rw [hi2,hv]
  have g:=z3l (n:=a.Machine.Inputs.length) (x:=x) (i:=i) (v:=v) (by omega) hx (by omega) (by omega)
  obtain ⟨q6,g1,g2⟩:=bE9.1 g
  obtain ⟨q7,g3,g4⟩:=bE9.1 g2
  have g5:=of_decide_eq_true (Option.some.inj g4)
  rw [g1,bS9,g3,bS9]
  have e:(((2 ^ a.Machine.Inputs.length:Nat)):Int)=(2:Int) ^ a.Machine.Inputs.length:=by simp
  show 0<=bor (g6a (x:Int) q6) q7/\bor (g6a (x:Int) q6) q7<_
  exact ⟨g5.1,by rw [e]; exact g5.2⟩
include hf
theorem z11 {w:List Nat}:∀ k,OkP a.Machine (pat (stA a th) 0 zero w k):=by
 have key:∀ (w:List Nat) (t:Nat) (p:Place),OkP a.Machine p->∀ k,OkP a.Machine (pat (stA a th) t p w k):=by
  intro w
  induction w with
  | nil=>intro t p hp k; cases k <;> exact hp
  | cons x xs ih =>
   intro t p hp k
   cases k with
   | zero=>exact hp
   | succ k=>exact ih _ _ (s1f ha.m hp _) k
 exact key w 0 zero (o5b ha.m)
end
end
end Go.Nw.UM
namespace Go.Nw.UM
noncomputable section
section
variable {a:Accident} {t:Theory} (ha:OkA a) (hth:OkT a t) (hi:¬ t.Input<0)
include ha hth hi
end
section
variable [Bd]
end
end
end Go.Nw.UM
namespace Go.Nw.UM
noncomputable section
def Shn (c:List (List Literal)):Prop:=∀ t∈c,∀ l∈t,l.Kind=1\/l.Kind=4
theorem L2e {c:List (List Literal)} (h6:c.length<=6) (h6':∀ t∈c,t.length<=6):∃ b,L1l c=some b/\(b=true->Shn c):=by
 unfold L1l
 have inner:∀ (i:Nat) t,c[i]?=some t->((∀ l∈t,l.Kind=1\/l.Kind=4)/\b0w (L1m c i) 0=some (.inl ()))\/b0w (L1m c i) 0=some (.inr false):=fun i t ht=>by
  rcases b4j (f:=L1m c i) (l:=t) (p:=fun _ l=>¬ (l.Kind=1\/l.Kind=4)) (e:=.inr false) (u:=.inl ()) (D5s (h6' t (b1d.2 ⟨i,ht⟩))) (fun k l hl=>by
    refine ⟨decide (¬ l.Kind=1) && decide (¬ l.Kind=4),?_,by simp⟩
    unfold L1m
    simp only [b1h ht,b1h hl,bS9,Int.ofNat_lt,b1k hl,decide_true,if_true]) (by unfold L1m; simp [b1h ht]) with ⟨q1,q2⟩|⟨_,q3⟩
  ·exact .inl ⟨fun l hl=>by
    obtain ⟨k,hk⟩:=b1d.1 hl
    exact Classical.not_not.1 (q1 k l hk),q2⟩
  ·exact .inr q3
 obtain ⟨b,h1,h2⟩:=j7u (f:=L1o c) c.length (fun (_:Unit) k=>k) (fun k _=>∀ j t,j<k->c[j]?=some t->∀ l∈t,l.Kind=1\/l.Kind=4) (fun b=>b = .inr false\/(b = .inl ()/\∀ t∈c,∀ l∈t,l.Kind=1\/l.Kind=4)) (fun _ k hk i1=>by
   obtain ⟨t,ht⟩:=b3b hk
   unfold L1o
   simp only [Int.ofNat_lt,hk,decide_true,if_true]
   rcases inner k t ht with ⟨g1,g2⟩|g2
   ·rw [g2,bS9]
    unfold L1y
    rw [b2r hk (D5s h6)]
    refine .inl ⟨(),rfl,fun j t' hj hj'=>?_⟩
    by_cases e:j=k
    ·subst e; rw [ht] at hj'; cases hj'; exact g1
    ·exact i1 j t' (by omega) hj'
   ·rw [g2,bS9]
    exact .inr ⟨_,rfl,.inl rfl⟩) (fun _ i1=>by
   refine ⟨.inl (),?_,.inr ⟨rfl,fun t ht=>?_⟩⟩
   ·unfold L1o
    simp only [Int.lt_irrefl,decide_false,fT9,if_false]
   ·obtain ⟨k,hk⟩:=b1d.1 ht
    exact i1 k t (b1k hk) hk) 0 (Nat.zero_le _) (s:=()) (fun j t hj=>by omega)
 have h1':b0w (L1o c) 0=some b:=h1
 rw [h1',bS9]
 rcases h2 with rfl|⟨rfl,h⟩
 ·exact ⟨false,rfl,fun h=>by cases h⟩
 ·exact ⟨true,rfl,fun _=>h⟩
theorem L2c {a b:Machine} {p q:Place} (hp:OkP a p) (hq:OkP b q) (hs:sh a p=sh b q) {x:Int} {l:Literal} (hl:l.Kind=1\/l.Kind=4):lit a p x l=lit b q x l:=by
 obtain ⟨s,g1,g2⟩:=r2i hp
 obtain ⟨t,g3,g4⟩:=r2i hq
 have e:s.Shows=t.Shows:=by rw [g2,g4,hs]
 unfold lit b77
 rcases hl with h|h
 ·simp only [h,decide_true,if_true]
 ·simp only [h,Int.reduceEq,decide_false,decide_true,fT9,if_false,if_true,g1,g3,bS9,e]
theorem L2b {a b:Machine} {p q:Place} (hp:OkP a p) (hq:OkP b q) (hs:sh a p=sh b q) {x:Int} {c:List (List Literal)} (hc:Shn c):b46 a p x c=b46 b q x c:=by
 unfold b46
 rw [Bool.eq_iff_iff,List.any_eq_true,List.any_eq_true]
 have h:∀ t∈c,t.all (lit a p x)=t.all (lit b q x):=fun t ht=>by
  rw [Bool.eq_iff_iff,List.all_eq_true,List.all_eq_true]
  exact ⟨fun g l hl=>by rw [<- L2c hp hq hs (hc t ht l hl)]; exact g l hl,fun g l hl=>by rw [L2c hp hq hs (hc t ht l hl)]; exact g l hl⟩
 exact ⟨fun ⟨t,ht,g⟩=>⟨t,ht,by rw [<- h t ht]; exact g⟩,fun ⟨t,ht,g⟩=>⟨t,ht,by rw [h t ht]; exact g⟩⟩
theorem L2l {a b:Machine} {p q:Place} (hp:OkP a p) (hq:OkP b q) (hs:sh a p=sh b q) {x:Int} {c:List (List Literal)} (hc:Shn c):c25 a p x c=c25 b q x c:=by
 unfold c25; rw [L2b hp hq hs hc]
theorem L2d {m:Machine} {hd:Nat->Int} {p:Place} {l l':List Int}:∀ k,(∀ j,j<k->l.getD j 0=l'.getD j 0)->plc m hd p l k=plc m hd p l' k
 | 0,_=>rfl
 | k+1,h=>by
  unfold plc
  rw [L2d k fun j hj=>h j (by omega),h k (by omega)]
def hl (th:Theory) (w:List Nat) (k:Nat):List Int:=tab k fun j=>hdT th j (w.getD j 0)
theorem L10 {th:Theory} {w:List Nat} {k j:Nat} (h:j<k):(hl th w k).getD j 0=hdT th j (w.getD j 0):=o8p (c1l h)
theorem L13 {a:Accident} {th:Theory} {w:List Nat} (hh:∀ j:Nat,j<w.length->0<=hdT th j (w.getD j 0)):∀ k,k<=w.length->pat (stA a th) 0 zero w k=plc a.Machine idn zero (hl th w k) k
 | 0,_=>by
  cases w <;> rfl
 | k+1,h=>by
  obtain ⟨y,hy⟩:=b3b (l:=w) (k:=k) (by omega)
  rw [x55 hy,L13 hh k (by omega),Nat.zero_add]
  conv => rhs; unfold plc
  rw [L10 (Nat.lt_succ_self k),L2d (l:=hl th w (k+1)) (l':=hl th w k) k fun j hj=>by rw [L10 (by omega),L10 hj]]
  have := hh k (by omega)
  rw [o8p hy] at this ⊢
  unfold stA idn
  rw [show ((hdT th k y).toNat:Int)=hdT th k y by omega]
section
variable {a b:Machine} {s:List (List Literal)} {T:Int} {rs:List Record} {th:Theory}
 (hfa : ∀ n∈b3g a,n.size<=maxLen) (hfb:∀ n∈b3g b,n.size<=maxLen) (ha:OkA ⟨a,s,T,rs⟩) (hb:OkA ⟨b,s,T,rs⟩) (hin:a.Inputs=b.Inputs) (hsm:∀ l,(∀ x∈l,OkX a x)->s88 a l=s88 b l)
 (hs : Shn s) (hrs:∀ r∈rs,Shn r.Cond) (hth:OkT ⟨a,s,T,rs⟩ th) (hth':OkT ⟨b,s,T,rs⟩ th)
include hfa hfb ha hb hin hsm hth hth'
theorem L2v {w:List Nat} (hw:∀ x∈w,x<nA ⟨a,s,T,rs⟩) (k:Nat) (hk:k<=w.length):sh a (pat (stA ⟨a,s,T,rs⟩ th) 0 zero w k)=sh b (pat (stA ⟨b,s,T,rs⟩ th) 0 zero w k):=by
 have hx:∀ j:Nat,j<w.length->OkX a (hdT th j (w.getD j 0)):=fun j hj=>by
  obtain ⟨y,hy⟩:=b3b (l:=w) (k:=j) hj
  rw [o8p hy]
  exact z3j ha hth (hw y (mG9 hy))
 have hh:∀ j:Nat,j<w.length->0<=hdT th j (w.getD j 0):=fun j hj=>(hx j hj).1
 rw [L13 hh k hk,L13 hh k hk]
 have e:=hsm (hl th w k) fun x hxm=>by
  obtain ⟨i,hi,rfl⟩:=g3k hxm
  exact hx i (by omega)
 unfold s88 at e
 rw [show (hl th w k).length=k from b3y] at e
 exact e
include hs hrs
theorem L2a {w:List Nat} (h:K50 ⟨a,s,T,rs⟩ th (fun _=>true) ftT w):K50 ⟨b,s,T,rs⟩ th (fun _=>true) ftT w:=by
 obtain ⟨h1,h2,h3⟩:=h
 have en:nA ⟨a,s,T,rs⟩=nA ⟨b,s,T,rs⟩:=by unfold nA; simp only; rw [hin]
 have hf:=(x5o w 0 zero).1 h2
 have hw:∀ x∈w,x<nA ⟨a,s,T,rs⟩:=fun x hx=>by
  obtain ⟨k,hk⟩:=b1d.1 hx
  exact (hf k x hk).1
 have key:=L2v hfa hfb ha hb hin hsm hth hth' hw
 have pa:=z11 hfa ha hth (w:=w)
 have pb:=z11 hfb hb hth' (w:=w)
 refine ⟨h1,(x5o w 0 zero).2 fun k x hx=>?_,fun i hi hki=>?_⟩
 ·obtain ⟨g1,g2⟩:=hf k x hx
  refine ⟨en ▸ g1,?_⟩
  unfold okA at g2 ⊢
  rw [<- L2l (pa k) (pb k) (key k (by have:=b1k hx; omega)) hs]
  exact g2
 ·have g:=h3 i hi hki
  obtain ⟨r,hr,eR,_⟩:=u2g ha hi
  have hhold:∀ (k:Nat) x,w[k]?=some x->hold ⟨a,s,T,rs⟩ i (pat (stA ⟨a,s,T,rs⟩ th) 0 zero w k) x=hold ⟨b,s,T,rs⟩ i (pat (stA ⟨b,s,T,rs⟩ th) 0 zero w k) x:=fun k x hx=>by
   unfold hold
   have e2:R ⟨b,s,T,rs⟩ i=r:=u6j hr
   rw [eR,e2]
   exact L2b (pa k) (pb k) (key k (by have:=b1k hx; omega)) (hrs r (mG9 hr))
  rw [y9k] at g ⊢
  have ea:al ⟨b,s,T,rs⟩ i=al ⟨a,s,T,rs⟩ i:=rfl
  have ef:fr ⟨b,s,T,rs⟩ i=fr ⟨a,s,T,rs⟩ i:=rfl
  have et:to ⟨b,s,T,rs⟩ i=to ⟨a,s,T,rs⟩ i:=rfl
  rw [ea,ef,et]
  cases hA:al ⟨a,s,T,rs⟩ i with
  | true =>
   rw [hA,if_pos rfl] at g
   rw [if_pos rfl]
   intro k x hx q1 q2
   rw [<- hhold k x hx]; exact g k x hx q1 q2
  | false =>
   rw [hA,if_neg (by simp)] at g
   rw [if_neg (by simp)]
   rcases g with g|⟨k,x,hx,q1,q2,q3⟩
   ·exact .inl g
   ·exact .inr ⟨k,x,hx,q1,q2,by rw [<- hhold k x hx]; exact q3⟩
end
theorem L17 {a:Accident} (hf:∀ n∈b3g a.Machine,n.size<=maxLen):s9o a=some true\/(a.Records.length<=10/\s9o a=some false/\s9r a=some (J24 a)/\(J24 a≠0\/Small a)):=by
 rcases u6h hf with h|⟨hn,h,hs⟩
 ·exact .inl h
 ·exact .inr ⟨hn,h,u4j hf hn,hs⟩
theorem L19 {β:Type} {n:Nat} {f:Int->Option (Out Int (Unit ⊕ β))} (hn:n<=maxLen) (hf:∀ k:Nat,k<n->f k=some (.nx (wr ((k:Int)+1)))) (fin:f (n:Int)=some (.br (.inl ()))):b0w f 0=some (.inl ()) :=
 b4h (f:=f) n (fun (_:Unit) k=>k) (fun _=>()) (.inl ()) (s0:=()) rfl (fun k hk=>by rw [hf k hk,b2r hk hn]) fin
section
variable {a b:Machine} {x:neweltop_Alike} (hfa:∀ n∈b3g a,n.size<=maxLen) (hfb:∀ n∈b3g b,n.size<=maxLen) (sa:Small ⟨a,x.Assume,x.Ticks,x.Records⟩) (sb:Small ⟨b,x.Assume,x.Ticks,x.Records⟩)
 (hth : OkT ⟨a,x.Assume,x.Ticks,x.Records⟩ x.Theory) (hs:Shn x.Assume) (hrs:∀ r∈x.Records,Shn r.Cond)
include hfa hfb sa sb hth hs hrs
theorem L2k:L1u a b x=some true:=by
 have ha:=sa.ok
 have hb:=sb.ok
 obtain ⟨r,h1,h2⟩:=r2l hfa hfb ha.m hb.m
 unfold L1u
 rw [h1,bS9]
 rcases h2 with ⟨rfl,_⟩|⟨hin,hout,⟨rfl,hsm⟩|⟨run,rfl,_⟩⟩
 ·rfl
 case inr.inr=>rfl
 have hok:∀ t,OkT ⟨a,x.Assume,x.Ticks,x.Records⟩ t ↔ OkT ⟨b,x.Assume,x.Ticks,x.Records⟩ t:=fun t=>by
  unfold OkT l59
  simp only
  rw [hin]
 have hth':=(hok _).1 hth
 have hsm':∀ l,(∀ x∈l,OkX b x)->s88 b l=s88 a l:=fun l hx=>(hsm l fun y hy=>by
  have := hx y hy
  unfold OkX at this ⊢; rw [hin]; exact this).symm
 have fiff:∀ t w,OkT ⟨a,x.Assume,x.Ticks,x.Records⟩ t->(K50 ⟨a,x.Assume,x.Ticks,x.Records⟩ t (fun _=>true) ftT w ↔ K50 ⟨b,x.Assume,x.Ticks,x.Records⟩ t (fun _=>true) ftT w):=fun t w ht =>
  ⟨fun h=>L2a hfa hfb ha hb hin hsm hs hrs ht ((hok t).1 ht) h,fun h=>L2a hfb hfa hb ha hin.symm hsm' hs hrs ((hok t).1 ht) ht h⟩
 rw [if_neg (by simp)]
 have na:x.Records.length<=10:=by have:=ha.n; simp only at this; omega
 obtain ⟨p,p1,_,p2⟩:=u6i (a:=⟨a,x.Assume,x.Ticks,x.Records⟩) (th:=x.Theory) hfa na (.inr sa)
 obtain ⟨q,q1,_,q2⟩:=u6i (a:=⟨b,x.Assume,x.Ticks,x.Records⟩) (th:=x.Theory) hfb na (.inr sb)
 rcases p2 with ⟨z,_⟩|⟨_,_,p3,p4⟩
 ·exact absurd (u27.2 ⟨ha,hth⟩) z
 rcases q2 with ⟨z,_⟩|⟨_,_,q3,q4⟩
 ·exact absurd (u27.2 ⟨hb,hth'⟩) z
 have epq:p.1=q.1:=by
  rw [Bool.eq_iff_iff,p4,q4]
  exact ⟨fun ⟨w,h⟩=>⟨w,(fiff _ w hth).1 h⟩,fun ⟨w,h⟩=>⟨w,(fiff _ w hth).2 h⟩⟩
 rw [p1,bS9,q1,bS9,if_neg (by rw [p3,q3,epq]; cases q.1 <;> simp [b5c])]
 obtain ⟨c,c1,_,c2,c3⟩:=u6f (a:=⟨a,x.Assume,x.Ticks,x.Records⟩) (th:=x.Theory) hfa na (.inr sa)
 obtain ⟨d,d1,_,d2,d3⟩:=u6f (a:=⟨b,x.Assume,x.Ticks,x.Records⟩) (th:=x.Theory) hfb na (.inr sb)
 rcases c3 with ⟨z,_⟩|⟨_,_,c4⟩
 ·exact absurd (u27.2 ⟨ha,hth⟩) z
 rcases d3 with ⟨z,_⟩|⟨_,_,d4⟩
 ·exact absurd (u27.2 ⟨hb,hth'⟩) z
 have ecd:c=d:=by
  rcases c4 with ⟨w,hw,rfl⟩|⟨hw,rfl⟩
  ·have hw':Lst (K50 ⟨b,x.Assume,x.Ticks,x.Records⟩ x.Theory (fun _=>true) ftT) w:=⟨(fiff _ w hth).1 hw.1,fun v hv=>hw.2 v ((fiff _ v hth).2 hv)⟩
   rcases d4 with ⟨v,hv,rfl⟩|⟨hv,_⟩
   ·rw [u8w hw' hv]
   ·exact absurd hw'.1 (hv w)
  ·rcases d4 with ⟨v,hv,rfl⟩|⟨hv,rfl⟩
   ·exact absurd ((fiff _ v hth).2 hv.1) (hw v)
   ·rfl
 subst ecd
 rw [c1,bS9,d1,bS9,if_neg (by simp)]
 have hloop:b0w (L1s c c) 0=some (.inl ()):=L19 (D5s (l:=c.1) (n:=40) c2) (fun k hk=>by
   obtain ⟨y,hy⟩:=b3b hk
   unfold L1s
   simp only [Int.ofNat_lt,hk,decide_true,if_true,b1h hy,bS9,not_true,decide_false,fT9,if_false]) (by
   unfold L1s
   simp only [Int.lt_irrefl,decide_false,fT9,if_false])
 rw [hloop,bS9]
 simp only
 unfold L1x
 have eths:L1p ⟨a,x.Assume,x.Ticks,x.Records⟩=L1p ⟨b,x.Assume,x.Ticks,x.Records⟩:=by
  have e1:l10 a.Inputs.length (tA ⟨a,x.Assume,x.Ticks,x.Records⟩)=l10 b.Inputs.length (tA ⟨b,x.Assume,x.Ticks,x.Records⟩):=by
   rw [hin]; rfl
  unfold L1p
  simp only
  rw [<- e1]
  refine List.filter_congr fun t ht=>?_
  have hto:=(K7a ha).1 ht
  rw [Bool.eq_iff_iff,K6z,K6z]
  exact ⟨fun ⟨w,h⟩=>⟨w,(fiff _ w hto).1 h⟩,fun ⟨w,h⟩=>⟨w,(fiff _ w hto).2 h⟩⟩
 have hlen:(L1p ⟨b,x.Assume,x.Ticks,x.Records⟩).length<=maxLen:=by
  have h6:=tA6 sb
  have hi:=sb.i
  refine Nat.le_trans (List.length_filter_le _ _) ?_
  rw [K6q]
  simp only at hi
  have : b.Inputs.length * (2 * tA ⟨b,x.Assume,x.Ticks,x.Records⟩)<=2 * (2 * 6):=Nat.mul_le_mul (by omega) (by omega)
  simp only [maxLen]; omega
 rw [K7z hfa ha,bS9,K7z hfb hb,bS9,eths]
 simp only [not_true,decide_false,Bool.or_self,fT9,if_false]
 generalize hL:L1p ⟨b,x.Assume,x.Ticks,x.Records⟩=L at hlen
 have hloop2:b0w (L1t (L,0) (L,0)) 0=some (.inl ()):=L19 (n:=L.length) hlen (fun k hk=>by
   obtain ⟨y,hy⟩:=b3b hk
   unfold L1t
   simp only [Int.ofNat_lt,hk,decide_true,if_true,b1h hy,bS9,Bool.and_self,Bool.not_true,fT9,if_false]) (by
   unfold L1t
   simp only [Int.lt_irrefl,decide_false,fT9,if_false])
 rw [hloop2,bS9]
 rfl
end
section
variable [Bd]
theorem s0j (a b:Machine) (x:neweltop_Alike) (hma:b9d a) (hmb:b9d b) (hx:L1v x):L1r a b x=some true:=by
 have hfa:=l5y hma
 have hfb:=l5y hmb
 unfold L1r
 rcases L17 (a:=⟨a,x.Assume,x.Ticks,x.Records⟩) hfa with h|⟨hn,h,hc,hs⟩
 ·rw [h]; rfl
 rcases L17 (a:=⟨b,x.Assume,x.Ticks,x.Records⟩) hfb with g|⟨gn,g,gc,gs⟩
 ·rw [h,g]; rfl
 rw [h,g,hc,gc]
 simp only [bS9,fT9,if_false]
 by_cases he:J24 ⟨a,x.Assume,x.Ticks,x.Records⟩=0
 case neg=>simp [he,L1k]
 by_cases ge:J24 ⟨b,x.Assume,x.Ticks,x.Records⟩=0
 case neg=>simp [he,ge,L1k]
 have sa:Small ⟨a,x.Assume,x.Ticks,x.Records⟩:=by
  rcases hs with h|h
  ·exact absurd he h
  ·exact h
 have sb:Small ⟨b,x.Assume,x.Ticks,x.Records⟩:=by
  rcases gs with h|h
  ·exact absurd ge h
  ·exact h
 have ha:=sa.ok
 simp only [he,ge,not_true,decide_false,fT9,if_false,bS9,Bool.false_or]
 cases hth:l59 ⟨a,x.Assume,x.Ticks,x.Records⟩ x.Theory with
 | false=>rfl
 | true =>
 have hth:OkT ⟨a,x.Assume,x.Ticks,x.Records⟩ x.Theory:=hth
 have has:=ha.asu
 obtain ⟨b0,s1,s2⟩:=L2e (c:=x.Assume) has.1 fun t ht=>(has.2 t ht).1
 rw [s1]
 simp only [Bool.not_true,fT9,if_false,bS9]
 cases b0 with
 | false=>rfl
 | true =>
 simp only [Bool.not_true,fT9,if_false]
 have hrec:∀ r∈x.Records,∃ b,L1l r.Cond=some b/\(b=true->Shn r.Cond):=fun r hr=>by
  have h:=ha.rc r hr
  exact L2e h.1 fun t ht=>(h.2 t ht).1
 obtain ⟨q,h1,h2⟩:=j7u (f:=L1n x) x.Records.length (fun (_:Unit) k=>k) (fun k _=>∀ j r,j<k->x.Records[j]?=some r->Shn r.Cond) (fun q=>q = .inr true\/(q = .inl ()/\∀ r∈x.Records,Shn r.Cond)) (fun _ k hk i1=>by
   obtain ⟨r,hr⟩:=b3b hk
   obtain ⟨c,c1,c2⟩:=hrec r (mG9 hr)
   unfold L1n
   simp only [Int.ofNat_lt,hk,decide_true,if_true,b1h hr,bS9,c1]
   cases c with
   | false=>exact .inr ⟨_,rfl,.inl rfl⟩
   | true =>
    simp only [Bool.not_true,fT9,if_false]
    rw [b2r hk (D5s (l:=x.Records) (n:=8) ha.n)]
    refine .inl ⟨(),rfl,fun j r' hj hj'=>?_⟩
    by_cases e:j=k
    ·subst e; rw [hr] at hj'; cases hj'; exact c2 rfl
    ·exact i1 j r' (by omega) hj') (fun _ i1=>by
   refine ⟨.inl (),?_,.inr ⟨rfl,fun r hr=>?_⟩⟩
   ·unfold L1n
    simp only [Int.lt_irrefl,decide_false,fT9,if_false]
   ·obtain ⟨k,hk⟩:=b1d.1 hr
    exact i1 k r (b1k hk) hk) 0 (Nat.zero_le _) (s:=()) (fun j r hj=>by omega)
 have h1':b0w (L1n x) 0=some q:=h1
 rw [h1',bS9]
 rcases h2 with rfl|⟨rfl,hrs⟩
 ·rfl
 ·exact L2k hfa hfb sa sb hth (s2 rfl) hrs
end
end
end Go.Nw.UM
