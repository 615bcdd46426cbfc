/- Plain laws on the models. -/
import Derived.Test.YtccjacnppmciaaaGreatDoorAM
import Derived.Test.YtccjacnppmciaaaGreatDoorNwTypes
import Derived.Test.YtccjacnppmciaaaGreatDoorP4
import Derived.Test.YtccjacnppmciaaaGreatDoorP3
set_option linter.all false
namespace Go.Nw.AM
variable [Bd]
def c68 (x:ByteArray):Prop:=x.size<=Bd.B
theorem l4q {r:List AV} (h:MtL [.s] r):∃ x:ByteArray,r=eS x/\c68 x:=by
 obtain ⟨a0,r0,rfl,h0,g0⟩:=b3e h
 obtain ⟨v0,rfl,k0⟩:=d4c h0
 exact ⟨v0,by rw [b6o g0]; rfl,k0⟩
theorem g1x {a:AV} (h:Mt (.sl [.s]) a):∃ l:List ByteArray,a = .fs 1 (l.map eS)/\OkL c68 l:=by
 obtain ⟨l,rfl,h1,h2⟩:=b8q eS c68 h fun r hr=>l4q hr
 exact ⟨l,rfl,h1,h2⟩
def r8n (x:Counter):Prop:=c68 x.Name/\b5k x.Max
theorem l4l {r:List AV} (h:MtL [.s,.i .i64] r):∃ x:Counter,r=b0o x/\r8n x:=by
 obtain ⟨a0,r0,rfl,h0,g0⟩:=b3e h
 obtain ⟨a1,r1,rfl,h1,g1⟩:=b3e g0
 obtain ⟨v0,rfl,k0⟩:=d4c h0
 obtain ⟨v1,rfl,k1⟩:=b6n h1
 exact ⟨⟨v0,v1⟩,by rw [b6o g1]; rfl,⟨k0,k1⟩⟩
theorem j8e {a:AV} (h:Mt (.sl [.s,.i .i64]) a):∃ l:List Counter,a = .fs 2 (l.map b0o)/\OkL r8n l:=by
 obtain ⟨l,rfl,h1,h2⟩:=b8q b0o r8n h fun r hr=>l4l hr
 exact ⟨l,rfl,h1,h2⟩
def y9d (x:State):Prop:=c68 x.Name/\b5k x.Shows
theorem l4s {r:List AV} (h:MtL [.s,.i .i64] r):∃ x:State,r=b0p x/\y9d x:=by
 obtain ⟨a0,r0,rfl,h0,g0⟩:=b3e h
 obtain ⟨a1,r1,rfl,h1,g1⟩:=b3e g0
 obtain ⟨v0,rfl,k0⟩:=d4c h0
 obtain ⟨v1,rfl,k1⟩:=b6n h1
 exact ⟨⟨v0,v1⟩,by rw [b6o g1]; rfl,⟨k0,k1⟩⟩
theorem j8i {a:AV} (h:Mt (.sl [.s,.i .i64]) a):∃ l:List State,a = .fs 2 (l.map b0p)/\OkL y9d l:=by
 obtain ⟨l,rfl,h1,h2⟩:=b8q b0p y9d h fun r hr=>l4s hr
 exact ⟨l,rfl,h1,h2⟩
def b5x (x:Literal):Prop:=b5k x.Kind/\b5k x.Number/\b5k x.Value/\True
theorem l4n {r:List AV} (h:MtL [.i .i64,.i .i64,.i .i64,.b] r):∃ x:Literal,r=b3k x/\b5x x:=by
 obtain ⟨a0,r0,rfl,h0,g0⟩:=b3e h
 obtain ⟨a1,r1,rfl,h1,g1⟩:=b3e g0
 obtain ⟨a2,r2,rfl,h2,g2⟩:=b3e g1
 obtain ⟨a3,r3,rfl,h3,g3⟩:=b3e g2
 obtain ⟨v0,rfl,k0⟩:=b6n h0
 obtain ⟨v1,rfl,k1⟩:=b6n h1
 obtain ⟨v2,rfl,k2⟩:=b6n h2
 obtain ⟨v3,rfl,k3⟩:=j8k h3
 exact ⟨⟨v0,v1,v2,v3⟩,by rw [b6o g3]; rfl,⟨k0,k1,k2,k3⟩⟩
theorem j8f {a:AV} (h:Mt (.sl [.i .i64,.i .i64,.i .i64,.b]) a):∃ l:List Literal,a = .fs 4 (l.map b3k)/\OkL b5x l:=by
 obtain ⟨l,rfl,h1,h2⟩:=b8q b3k b5x h fun r hr=>l4n hr
 exact ⟨l,rfl,h1,h2⟩
theorem l4m {r:List AV} (h:MtL [.sl [.i .i64,.i .i64,.i .i64,.b]] r):∃ x:List Literal,r=b0t x/\OkL b5x x:=by
 obtain ⟨a0,r0,rfl,h0,g0⟩:=b3e h
 obtain ⟨v0,rfl,k0⟩:=j8f h0
 exact ⟨v0,by rw [b6o g0]; rfl,k0⟩
theorem d4b {a:AV} (h:Mt (.sl [.sl [.i .i64,.i .i64,.i .i64,.b]]) a):∃ l:List (List Literal),a = .fs 1 (l.map b0t)/\OkL (OkL b5x) l:=by
 obtain ⟨l,rfl,h1,h2⟩:=b8q b0t (OkL b5x) h fun r hr=>l4m hr
 exact ⟨l,rfl,h1,h2⟩
def z15 (x:Set):Prop:=b5k x.Kind/\b5k x.Counter
theorem l4r {r:List AV} (h:MtL [.i .i64,.i .i64] r):∃ x:Set,r=b2o x/\z15 x:=by
 obtain ⟨a0,r0,rfl,h0,g0⟩:=b3e h
 obtain ⟨a1,r1,rfl,h1,g1⟩:=b3e g0
 obtain ⟨v0,rfl,k0⟩:=b6n h0
 obtain ⟨v1,rfl,k1⟩:=b6n h1
 exact ⟨⟨v0,v1⟩,by rw [b6o g1]; rfl,⟨k0,k1⟩⟩
theorem j8h {a:AV} (h:Mt (.sl [.i .i64,.i .i64]) a):∃ l:List Set,a = .fs 2 (l.map b2o)/\OkL z15 l:=by
 obtain ⟨l,rfl,h1,h2⟩:=b8q b2o z15 h fun r hr=>l4r hr
 exact ⟨l,rfl,h1,h2⟩
def y9c (x:Rule):Prop:=b5k x.From/\b5k x.To/\OkL (OkL b5x) x.When/\OkL z15 x.Sets
theorem l4p {r:List AV} (h:MtL [.i .i64,.i .i64,.sl [.sl [.i .i64,.i .i64,.i .i64,.b]],.sl [.i .i64,.i .i64]] r):∃ x:Rule,r=b0m x/\y9c x:=by
 obtain ⟨a0,r0,rfl,h0,g0⟩:=b3e h
 obtain ⟨a1,r1,rfl,h1,g1⟩:=b3e g0
 obtain ⟨a2,r2,rfl,h2,g2⟩:=b3e g1
 obtain ⟨a3,r3,rfl,h3,g3⟩:=b3e g2
 obtain ⟨v0,rfl,k0⟩:=b6n h0
 obtain ⟨v1,rfl,k1⟩:=b6n h1
 obtain ⟨v2,rfl,k2⟩:=d4b h2
 obtain ⟨v3,rfl,k3⟩:=j8h h3
 exact ⟨⟨v0,v1,v2,v3⟩,by rw [b6o g3]; rfl,⟨k0,k1,k2,k3⟩⟩
theorem j8g {a:AV} (h:Mt (.sl [.i .i64,.i .i64,.sl [.sl [.i .i64,.i .i64,.i .i64,.b]],.sl [.i .i64,.i .i64]]) a):∃ l:List Rule,a = .fs 4 (l.map b0m)/\OkL y9c l:=by
 obtain ⟨l,rfl,h1,h2⟩:=b8q b0m y9c h fun r hr=>l4p hr
 exact ⟨l,rfl,h1,h2⟩
def b9d (x:Machine):Prop:=OkL c68 x.Inputs/\OkL c68 x.Outputs/\OkL r8n x.Counters/\OkL y9d x.States/\OkL y9c x.Rules
def u1r (x:Record):Prop:=b5k x.From/\b5k x.To/\True/\OkL (OkL b5x) x.Cond
theorem u9e {r:List AV} (h:MtL [.i .i64,.i .i64,.b,.sl [.sl [.i .i64,.i .i64,.i .i64,.b]]] r):∃ x:Record,r=c26 x/\u1r x:=by
 obtain ⟨a0,r0,rfl,h0,g0⟩:=b3e h
 obtain ⟨a1,r1,rfl,h1,g1⟩:=b3e g0
 obtain ⟨a2,r2,rfl,h2,g2⟩:=b3e g1
 obtain ⟨a3,r3,rfl,h3,g3⟩:=b3e g2
 obtain ⟨v0,rfl,k0⟩:=b6n h0
 obtain ⟨v1,rfl,k1⟩:=b6n h1
 obtain ⟨v2,rfl,k2⟩:=j8k h2
 obtain ⟨v3,rfl,k3⟩:=d4b h3
 exact ⟨⟨v0,v1,v2,v3⟩,by rw [b6o g3]; rfl,⟨k0,k1,k2,k3⟩⟩
theorem u84 {a:AV} (h:Mt (.sl [.i .i64,.i .i64,.b,.sl [.sl [.i .i64,.i .i64,.i .i64,.b]]]) a):∃ l:List Record,a = .fs 4 (l.map c26)/\OkL u1r l:=by
 obtain ⟨l,rfl,h1,h2⟩:=b8q c26 u1r h fun r hr=>u9e hr
 exact ⟨l,rfl,h1,h2⟩
def s9d (x:Accident):Prop:=b9d x.Machine/\OkL (OkL b5x) x.Assume/\b5k x.Ticks/\OkL u1r x.Records
def u7i (x:Accident):List AV:=[.fs 1 (List.map eS x.Machine.Inputs),.fs 1 (List.map eS x.Machine.Outputs),.fs 2 (List.map b0o x.Machine.Counters),.fs 2 (List.map b0p x.Machine.States),.fs 4 (List.map b0m x.Machine.Rules),.fs 1 (List.map b0t x.Assume),I x.Ticks,.fs 4 (List.map c26 x.Records)]
theorem u9d {r:List AV} (h:MtL [.sl [.s],.sl [.s],.sl [.s,.i .i64],.sl [.s,.i .i64],.sl [.i .i64,.i .i64,.sl [.sl [.i .i64,.i .i64,.i .i64,.b]],.sl [.i .i64,.i .i64]],.sl [.sl [.i .i64,.i .i64,.i .i64,.b]],.i .i64,.sl [.i .i64,.i .i64,.b,.sl [.sl [.i .i64,.i .i64,.i .i64,.b]]]] r):∃ x:Accident,r=u7i x/\s9d x:=by
 obtain ⟨a0,r0,rfl,h0,g0⟩:=b3e h
 obtain ⟨a1,r1,rfl,h1,g1⟩:=b3e g0
 obtain ⟨a2,r2,rfl,h2,g2⟩:=b3e g1
 obtain ⟨a3,r3,rfl,h3,g3⟩:=b3e g2
 obtain ⟨a4,r4,rfl,h4,g4⟩:=b3e g3
 obtain ⟨a5,r5,rfl,h5,g5⟩:=b3e g4
 obtain ⟨a6,r6,rfl,h6,g6⟩:=b3e g5
 obtain ⟨a7,r7,rfl,h7,g7⟩:=b3e g6
 obtain ⟨v0,rfl,k0⟩:=g1x h0
 obtain ⟨v1,rfl,k1⟩:=g1x h1
 obtain ⟨v2,rfl,k2⟩:=j8e h2
 obtain ⟨v3,rfl,k3⟩:=j8i h3
 obtain ⟨v4,rfl,k4⟩:=j8g h4
 obtain ⟨v5,rfl,k5⟩:=d4b h5
 obtain ⟨v6,rfl,k6⟩:=b6n h6
 obtain ⟨v7,rfl,k7⟩:=u84 h7
 exact ⟨⟨⟨v0,v1,v2,v3,v4⟩,v5,v6,v7⟩,by rw [b6o g7]; rfl,⟨⟨k0,k1,k2,k3,k4⟩,k5,k6,k7⟩⟩
abbrev u4b:List Sh:=[.sl [.s],.sl [.s],.sl [.s,.i .i64],.sl [.s,.i .i64],.sl [.i .i64,.i .i64,.sl [.sl [.i .i64,.i .i64,.i .i64,.b]],.sl [.i .i64,.i .i64]],.sl [.sl [.i .i64,.i .i64,.i .i64,.b]],.i .i64,.sl [.i .i64,.i .i64,.b,.sl [.sl [.i .i64,.i .i64,.i .i64,.b]]]]
theorem u9s {a:AV} (h:MtA (.agg u4b) a):∃ x:Accident,a = .agg [.fs 1 (List.map eS x.Machine.Inputs),.fs 1 (List.map eS x.Machine.Outputs),.fs 2 (List.map b0o x.Machine.Counters),.fs 2 (List.map b0p x.Machine.States),.fs 4 (List.map b0m x.Machine.Rules),.fs 1 (List.map b0t x.Assume),I x.Ticks,.fs 4 (List.map c26 x.Records)]/\s9d x:=by
 obtain ⟨r,rfl,hr⟩:=g1y h
 obtain ⟨x,rfl,hx⟩:=u9d hr
 exact ⟨x,rfl,hx⟩
def u1s (x:Theory):Prop:=b5k x.Input/\b5k x.Value/\b5k x.From
theorem p33 {a:AV} (h:Mt (.sl [.i .i64]) a):∃ l:List Int,a = .fs 1 (l.map eI)/\OkL b5k l:=by
 obtain ⟨l,rfl,h1,h2⟩:=b8q eI b5k h fun r hr=>p36 hr
 exact ⟨l,rfl,h1,h2⟩
def z28 (x:l10_Past):Prop:=u1s x.Theory/\OkL b5k x.Inputs
def L0q (x:l10_Past):List AV:=[I x.Theory.Input,I x.Theory.Value,I x.Theory.From,.fs 1 (List.map eI x.Inputs)]
theorem L0x {r:List AV} (h:MtL [.i .i64,.i .i64,.i .i64,.sl [.i .i64]] r):∃ x:l10_Past,r=L0q x/\z28 x:=by
 obtain ⟨a0,r0,rfl,h0,g0⟩:=b3e h
 obtain ⟨a1,r1,rfl,h1,g1⟩:=b3e g0
 obtain ⟨a2,r2,rfl,h2,g2⟩:=b3e g1
 obtain ⟨a3,r3,rfl,h3,g3⟩:=b3e g2
 obtain ⟨v0,rfl,k0⟩:=b6n h0
 obtain ⟨v1,rfl,k1⟩:=b6n h1
 obtain ⟨v2,rfl,k2⟩:=b6n h2
 obtain ⟨v3,rfl,k3⟩:=p33 h3
 exact ⟨⟨⟨v0,v1,v2⟩,v3⟩,by rw [b6o g3]; rfl,⟨⟨k0,k1,k2⟩,k3⟩⟩
abbrev L0m:List Sh:=[.i .i64,.i .i64,.i .i64,.sl [.i .i64]]
theorem L0y {a:AV} (h:MtA (.agg L0m) a):∃ x:l10_Past,a = .agg [I x.Theory.Input,I x.Theory.Value,I x.Theory.From,.fs 1 (List.map eI x.Inputs)]/\z28 x:=by
 obtain ⟨r,rfl,hr⟩:=g1y h
 obtain ⟨x,rfl,hx⟩:=L0x hr
 exact ⟨x,rfl,hx⟩
end Go.Nw.AM
namespace Go.Nw.AM
noncomputable section
theorem u4a {a:Accident} {th:Theory} (ha:OkA a) (hth:OkT a th):(∃ w,Lst (K50 a th (fun _=>true) ftT) w/\u0k a th=some (toI w,true))\/((∀ w,¬ K50 a th (fun _=>true) ftT w)/\u0k a th=some ([],false)) :=
 u9k (keep:=fun _=>true) (ft:=ftT) ha hth (fun _ _=>rfl) (fun _ _ _ _ _ _=>rfl)
theorem u88 {a:Accident} {th:Theory} (hs:Small a) (hth:OkT a th):∃ b,(s8s a).bind (fun y=>z12 a th y)=some b/\(b=true ↔ ∃ w,K50 a th (fun _=>true) ftT w):=by
 have hn8:=hs.ok.n
 rw [u35 (by omega),bS9]
 obtain ⟨b,h1,h2⟩:=u89 (l:=List.range a.Records.length) hs hth (fun i hi=>List.mem_range.1 hi) (by rw [List.length_range]; exact hn8)
 refine ⟨b,h1,h2.trans ?_⟩
 exact ⟨fun ⟨w,hw⟩=>⟨w,(u3c fun i hi=>u3w hi).1 hw⟩,fun ⟨w,hw⟩=>⟨w,(u3c fun i hi=>u3w hi).2 hw⟩⟩
section
variable {a:Accident} {th:Theory} (hf:∀ n∈b3g a.Machine,n.size<=maxLen) (hn:a.Records.length<=10) (hs:J24 a≠0\/Small a)
include hf hn hs
theorem u6i:∃ r,u0g a th=some r/\u05 a th=some r/\((b32 a th≠0/\r=(false,b32 a th))\/(Small a/\OkT a th/\r.2=0/\(r.1=true ↔ ∃ w,K50 a th (fun _=>true) ftT w))):=by
 unfold u0g u05
 rw [u23 hf hn,u24 hf hn,bS9,bS9]
 by_cases he:b32 a th=0
 case neg=>rw [if_pos (by simpa using he),if_pos (by simpa using he)]; exact ⟨_,rfl,rfl,.inl ⟨he,rfl⟩⟩
 rw [if_neg (by simp [he]),if_neg (by simp [he])]
 obtain ⟨ha,hth⟩:=u27.1 he
 have hs':Small a:=by
  rcases hs with h|h
  ·exact absurd (u1v.2 ha) h
  ·exact h
 obtain ⟨b,h1,h2⟩:=u88 hs' hth
 have h1':((s8s a).bind fun y7=>(z12 a th y7).bind fun y8=>some (y8,(0:Int)))=some (b,0):=by
  obtain ⟨y,hy,hb⟩:=bE9.1 h1
  rw [hy,bS9,hb,bS9]
 rw [h1']
 rcases u4a ha hth with ⟨w,hw,h3⟩|⟨hw,h3⟩
 ·have : b=true:=h2.2 ⟨w,hw.1⟩
  subst this
  rw [h3,bS9]
  exact ⟨_,rfl,rfl,.inr ⟨hs',hth,rfl,h2⟩⟩
 ·have : b=false:=by
   cases b with
   | false=>rfl
   | true=>obtain ⟨w,h⟩:=h2.1 rfl; exact absurd h (hw w)
  subst this
  rw [h3,bS9]
  exact ⟨_,rfl,rfl,.inr ⟨hs',hth,rfl,h2⟩⟩
theorem u6f:∃ r,s9i a th=some r/\s8x a th=some r/\r.1.length<=40/\((b32 a th≠0/\r=([],b32 a th))\/(Small a/\OkT a th/\((∃ w,Lst (K50 a th (fun _=>true) ftT) w/\r=(toI w,0))\/((∀ w,¬ K50 a th (fun _=>true) ftT w)/\r=([],3))))):=by
 by_cases he:b32 a th=0
 case neg =>
  unfold s9i s8x
  rw [u23 hf hn,u24 hf hn,bS9,bS9,if_pos (by simpa using he),if_pos (by simpa using he)]; exact ⟨_,rfl,rfl,by simp,.inl ⟨he,rfl⟩⟩
 obtain ⟨ha,hth⟩:=u27.1 he
 have hs':Small a:=by
  rcases hs with h|h
  ·exact absurd (u1v.2 ha) h
  ·exact h
 have h6:=tA6 hs'
 unfold s9i
 rw [u23 hf hn,bS9,if_neg (by simp [he])]
 rcases u6g hs' hth hf with ⟨w,hw,hl,h1⟩|⟨hw,h1⟩
 ·rcases u4a ha hth with ⟨w',hw',h3⟩|⟨hw',h3⟩
  ·have := u8w hw hw'
   subst this
   rw [h3,h1]
   exact ⟨_,rfl,rfl,by show (toI w).length<=40; omega,.inr ⟨hs',hth,.inl ⟨w,hw,rfl⟩⟩⟩
  ·exact absurd hw.1 (hw' w)
 ·rcases u4a ha hth with ⟨w',hw',h3⟩|⟨hw',h3⟩
  ·exact absurd hw'.1 (hw w')
  ·rw [h3,h1]
   exact ⟨_,rfl,rfl,by simp,.inr ⟨hs',hth,.inr ⟨hw,rfl⟩⟩⟩
end
section
variable [Bd]
theorem l5y {m:Machine} (h:b9d m):∀ n∈b3g m,n.size<=maxLen:=by
 obtain ⟨h1,h2,h3,h4,h5⟩:=h
 intro n hn
 have hB:=Bd.le
 simp only [b3g,List.mem_append,List.mem_map] at hn
 rcases hn with ((hn|hn)|⟨c,hc,rfl⟩)|⟨c,hc,rfl⟩
 ·exact Nat.le_trans (h1.2 n hn) hB
 ·exact Nat.le_trans (h2.2 n hn) hB
 ·exact Nat.le_trans (h3.2 c hc).1 hB
 ·exact Nat.le_trans (h4.2 c hc).1 hB
theorem u9q {a:Accident} (h:s9d a):∀ n∈b3g a.Machine,n.size<=maxLen:=l5y h.1
end
end
end Go.Nw.AM
namespace Go.Nw.AM
noncomputable section
def psb (a:Accident) (t:Theory):Bool:=@decide (∃ w,K50 a t (fun _=>true) ftT w) (Classical.propDecidable _)
theorem K6z {a:Accident} {t:Theory}:psb a t=true ↔ ∃ w,K50 a t (fun _=>true) ftT w:=by
 unfold psb; exact @decide_eq_true_iff _ (Classical.propDecidable _)
theorem K7g {n T:Nat} {t:Theory}:t∈l10 n T ↔ t=⟨-1,0,0⟩\/∃ i v k:Nat,i<n/\v<2/\k<T/\t=⟨i,v,k⟩:=by
 simp only [l10,List.mem_cons,List.mem_flatMap,List.mem_map,List.mem_range]
 constructor
 ·rintro (h|⟨i,hi,v,hv,k,hk,rfl⟩)
  ·exact .inl h
  ·exact .inr ⟨i,v,k,hi,hv,hk,rfl⟩
 ·rintro (h|⟨i,v,k,hi,hv,hk,rfl⟩)
  ·exact .inl h
  ·exact .inr ⟨i,hi,v,hv,k,hk,rfl⟩
theorem K7a {a:Accident} (ha:OkA a) {t:Theory}:t∈l10 a.Machine.Inputs.length (tA a) ↔ OkT a t:=by
 have hT:=s9b ha
 constructor
 ·intro h
  rcases K7g.1 h with rfl|⟨i,v,k,hi,hv,hk,rfl⟩
  ·rfl
  ·have hs:=ha.m.z.i
   unfold OkT l59
   rw [if_neg (by simp <;> omega)]
   have w1:wr ((a.Machine.Inputs.length:Int) - 1)=(a.Machine.Inputs.length:Int) - 1:=b3t (by omega) (by omega)
   have w2:wr (a.Ticks - 1)=a.Ticks - 1:=by have:=ha.t; exact b3t (by omega) (by omega)
   rw [w1,w2]
   simp only [b98,Bool.and_eq_true,decide_eq_true_eq]
   omega
 ·intro h
  rw [K7g]
  rcases u5f h ha with ⟨h1,h2,h3⟩|⟨⟨h1,h1'⟩,h2,h3⟩
  ·obtain ⟨x,y,z⟩:=t; simp only at h1 h2 h3; subst h1 h2 h3; exact .inl rfl
  ·obtain ⟨x,y,z⟩:=t; simp only at h1 h1' h2 h3
   refine .inr ⟨x.toNat,y.toNat,z.toNat,by omega,by omega,by omega,?_⟩
   simp only [Theory.mk.injEq]; omega
theorem K6q (n T:Nat):(l10 n T).length=1+n * (2 * T):=by
 have h1:∀ i:Nat,((List.range 2).flatMap fun (v:Nat)=>(List.range T).map fun (t:Nat)=>Theory.mk i v t).length=2 * T:=fun i=>by
  simp [List.range_succ]; omega
 have h2:∀ n:Nat,((List.range n).flatMap fun (i:Nat)=>(List.range 2).flatMap fun (v:Nat)=>(List.range T).map fun (t:Nat)=>Theory.mk i v t).length=n * (2 * T):=by
  intro n
  induction n with
  | zero=>simp
  | succ n ih=>rw [List.range_succ (n:=n),List.flatMap_append,List.length_append,ih,List.flatMap_cons,List.flatMap_nil,List.append_nil,h1,Nat.add_mul,Nat.one_mul]
 show _+1=_
 rw [h2]; omega
theorem K7p {a:Accident} (ha:OkA a):∀ l:List Theory,(∀ t∈l,OkT a t)->J34 a l=some (l.filter (psb a))
 | [],_=>rfl
 | t :: l,h=>by
  have ih:=K7p ha l fun x hx=>h x (List.mem_cons_of_mem _ hx)
  unfold J34
  rcases u4a ha (h t List.mem_cons_self) with ⟨w,hw,h3⟩|⟨hw,h3⟩
  ·have e:psb a t=true:=K6z.2 ⟨w,hw.1⟩
   rw [h3,bS9,ih,bS9,List.filter_cons_of_pos e]; rfl
  ·have e:¬ psb a t=true:=fun hp=>by
    obtain ⟨w,h⟩:=K6z.1 hp; exact hw w h
   rw [h3,bS9,ih,bS9,List.filter_cons_of_neg e]; rfl
def K66 (a:Accident):List Theory:=(l10 a.Machine.Inputs.length (tA a)).filter (psb a)
theorem K7z {a:Accident} (hf:∀ n∈b3g a.Machine,n.size<=maxLen) (ha:OkA a):K5r a=some (K66 a,0):=by
 have hT:=s9b ha
 have hi:=ha.m.z.i
 have ht:=ha.t
 unfold K5r
 rw [u6k hf (by have:=ha.n; omega),bS9,u1v.2 ha,if_neg (by simp),if_pos ⟨by omega,by omega,by omega⟩]
 have e:a.Ticks.toNat=tA a:=by omega
 rw [e,K7p ha _ fun t ht=>(K7a ha).1 ht]
 rfl
section
variable [Bd]
end
end
end Go.Nw.AM
namespace Go.Nw
theorem x55 {π:Type} {st:Nat->π->Nat->π}:∀ {w:List Nat} {t0 k x:Nat} {p:π},w[k]?=some x->pat st t0 p w (k+1)=st (t0+k) (pat st t0 p w k) x
 | [],t0,k,x,p,h=>by simp at h
 | y :: ys,t0,0,x,p,h=>by
  simp only [List.getElem?_cons_zero,iE9] at h
  subst h
  cases ys <;> rfl
 | y :: ys,t0,k+1,x,p,h=>by
  simp only [List.getElem?_cons_succ] at h
  show pat st (t0+1) (st t0 p y) ys (k+1)=st (t0+(k+1)) (pat st (t0+1) (st t0 p y) ys k) x
  rw [x55 h,show t0+1+k=t0+(k+1) by omega]
end Go.Nw
namespace Go.Nw.AM
noncomputable section
section
variable {a:Accident} {th:Theory} {l:List Nat} {want:Nat}
theorem x56:∀ (w:List Nat) (t0:Nat) (s0:Place × Nat) (k x:Nat),Rch a th l t0 s0->AcD a th l want w (t0,s0)->t0+w.length=tA a->w[k]?=some x ->
  ∃ s,Rch a th l (t0+k) s/\s.1=pat (stA a th) t0 s0.1 w k/\x<nA a/\∃ m',TD a th l (t0+k,s) x=some m'/\b64 a th l want m'
 | [],t0,s0,k,x,hR,hA,hlen,h=>by simp at h
 | y :: ys,t0,s0,k,x,hR,hA,hlen,h=>by
  rw [List.length_cons] at hlen
  obtain ⟨h1,m',h2,h3⟩:=(u1t (by show t0<tA a; omega)).1 hA
  cases k with
  | zero =>
   simp only [List.getElem?_cons_zero,iE9] at h
   subst h
   exact ⟨s0,hR,by cases ys <;> rfl,h1,m',h2,ys,h3⟩
  | succ k =>
   simp only [List.getElem?_cons_succ] at h
   obtain ⟨D',_,_,e⟩:=u1f h2
   subst e
   obtain ⟨s,g1,g2,g3,g4⟩:=x56 ys (t0+1) _ k x ⟨s0,hR,y,h1,h2⟩ h3 (by omega) h
   rw [show t0+1+k=t0+(k+1) by omega] at g1 g4
   exact ⟨s,g1,g2,g3,g4⟩
variable (hs:Small a) (hth:OkT a th)
include hs hth
end
section
variable {a:Accident} (hf:∀ n∈b3g a.Machine,n.size<=maxLen) (hn:a.Records.length<=10) (hs:J24 a≠0\/Small a)
include hf hn hs
end
section
variable [Bd]
end
end
end Go.Nw.AM
namespace Go.Nw
section
variable {π:Type} {From To:Nat->Nat} {Al keep:Nat->Bool} {hold:Nat->π->Nat->Bool} {st st':Nat->π->Nat->π} {ok:Nat->π->Nat->Bool} {N T n:Nat}
end
end Go.Nw
namespace Go.Nw.AM
noncomputable section
theorem x9a:∀ {b a:List Nat},lle b a->∀ k x y,b[k]?=some x->a[k]?=some y->(∀ j:Nat,j<k->b[j]?=a[j]?)->x<=y
 | [],_,_,k,x,y,h,_,_=>by simp at h
 | _ :: _,[],h,_,_,_,_,_,_=>h.elim
 | x0 :: xs,y0 :: ys,h,0,x,y,h1,h2,_=>by
  simp at h1 h2; subst h1 h2
  rcases h with h|⟨h,_⟩ <;> omega
 | x0 :: xs,y0 :: ys,h,k+1,x,y,h1,h2,h3=>by
  have h0:=h3 0 (by omega)
  simp at h0; subst h0
  rcases h with h|⟨_,h⟩
  ·omega
  ·exact x9a h k x y (by simpa using h1) (by simpa using h2) fun j hj=>by
    have := h3 (j+1) (by omega); simpa using this
theorem x9h {a b:List Nat} (ha:a.length<=1000) (hb:b.length=a.length) (h:lle b a):x70 (toI a) (toI b)=some false:=by
 unfold x70
 obtain ⟨r,h1,h2⟩:=j7u (f:=C9a (toI a) (toI b)) a.length (fun (_:Unit) k=>k) (fun k _=>∀ j:Nat,j<k->b[j]?=a[j]?) (fun r=>r = .inl ()\/r = .inr false) (fun _ k hk i1=>by
   obtain ⟨y,hy⟩:=b3b hk
   obtain ⟨x,hx⟩:=b3b (l:=b) (k:=k) (by omega)
   have hkb:k<b.length:=by omega
   unfold C9a
   simp only [s95,Int.ofNat_lt,hk,hkb,decide_true,Bool.and_self,if_true,u5m hy,u5m hx,bS9]
   have hle:=x9a h k x y hx hy i1
   by_cases e:x=y
   ·subst e
    rw [if_neg (by simp),b2r hk (D5s ha)]
    exact .inl ⟨(),rfl,fun j hj=>by
     by_cases e:j=k
     ·subst e; rw [hx,hy]
     ·exact i1 j (by omega)⟩
   ·rw [if_pos (by simp; omega)]
    refine .inr ⟨_,rfl,.inr ?_⟩
    rw [decide_eq_false (by omega)]) (fun _ i1=>by
   refine ⟨.inl (),?_,.inl rfl⟩
   unfold C9a
   simp only [s95,Int.lt_irrefl,decide_false,Bool.false_and,fT9,if_false]) 0 (Nat.zero_le _) (s:=()) (fun j hj=>by omega)
 have h1':b0w (C9a (toI a) (toI b)) 0=some r:=h1
 rw [h1',bS9]
 rcases h2 with rfl|rfl
 ·unfold x8z
  simp [s95,hb]
 ·rfl
section
variable {a:Accident} {th:Theory} (hf:∀ n∈b3g a.Machine,n.size<=maxLen) (ha:OkA a) (hth:OkT a th)
include hf ha hth
end
end
end Go.Nw.AM
namespace Go.Nw.AM
noncomputable section
theorem o8t {m:Machine} {p:Place}:OkP m p ↔ In p.State m.States.length/\b5q 2 (fun k=>!(b2q (if (k:Int)=0 then p.Values.1 else p.Values.2) 0 (b56 m k)))=none:=by
 rw [d72]
 constructor
 ·intro h
  refine ⟨h.s,fun t ht=>?_⟩
  have : t=0\/t=1:=by omega
  rcases this with rfl|rfl
  ·have := b6t.2 h.a; simp [this]
  ·have := b6t.2 h.b; simp [this]
 ·rintro ⟨h1,h2⟩
  have h3:=h2 0 (by omega)
  have h4:=h2 1 (by omega)
  simp only [Bool.not_eq_false',Int.natCast_zero,if_true,b6t] at h3
  simp only [Bool.not_eq_false',show ¬ ((1:Nat):Int)=0 by decide,if_false,b6t] at h4
  exact ⟨h1,h3,h4⟩
theorem o8q {m:Machine} (hm:OkM m) {p:Place}:∃ b,b2q p.State 0 (wr ((List.length m.States:Int) - 1))=b/\(b=true ↔ In p.State m.States.length):=by
 have := hm.z.s
 rw [c1n (b1o (by omega))]
 refine ⟨_,rfl,?_⟩
 rw [b6t]
 unfold In
 omega
theorem o8s {m:Machine} {k:Nat}:(k<m.Counters.length/\∃ c,get m.Counters k=some c/\c.Max=b56 m k)\/(¬ k<m.Counters.length/\b56 m k=0):=by
 by_cases h:k<m.Counters.length
 ·obtain ⟨c,hc⟩:=b3b h
  exact .inl ⟨h,c,b1h hc,by unfold b56; rw [hc]⟩
 ·exact .inr ⟨h,by unfold b56; rw [List.getElem?_eq_none (by omega)]⟩
theorem o8o {m:Machine} (hm:OkM m) (p:Place):∃ b,o7s ⟨m⟩ p=some b/\(b=true ↔ OkP m p):=by
 unfold o7s o73
 have step:∀ k:Nat,k<2->o7t ⟨m⟩ p k=(if (!(b2q (if (k:Int)=0 then p.Values.1 else p.Values.2) 0 (b56 m k)))=true then some (.br (.inr false)) else some (.nx ((k:Int)+1))):=fun k hk=>by
  have h2:(k:Int)<2:=by omega
  unfold o7t o7u
  simp only [h2,decide_true,if_true,c2x (show In (k:Int) 2 from ⟨by omega,by omega⟩),bS9,Int.ofNat_lt]
  rcases o8s (m:=m) (k:=k) with ⟨h3,c,h4,h5⟩|⟨h3,h4⟩
  ·simp only [h3,decide_true,if_true,h4,bS9,h5,b2r hk (show 2<=maxLen by decide)]
  ·simp only [h3,decide_false,fT9,if_false,h4,b2r hk (show 2<=maxLen by decide)]
 rw [c7s (f:=o7t ⟨m⟩ p) (n:=2) (p:=fun k=>!(b2q (if (k:Int)=0 then p.Values.1 else p.Values.2) 0 (b56 m k))) (e:=fun _=>.inr false) (u:=.inl ()) (fun t ht hp=>by rw [step t ht,if_pos hp]) (fun t ht hp=>by rw [step t ht,if_neg (by rw [hp]; simp)]) (by rfl),o8t]
 obtain ⟨b,h1,h2⟩:=o8q hm (p:=p)
 cases b5q 2 (fun k=>!(b2q (if (k:Int)=0 then p.Values.1 else p.Values.2) 0 (b56 m k))) with
 | none=>exact ⟨b,by simp only [bS9,h1],by rw [h2]; simp⟩
 | some t=>exact ⟨false,rfl,by simp⟩
theorem o83 {m:Machine} (hm:OkM m) (p:Place):∃ b,o7y m p=some b/\(b=true ↔ OkP m p):=by
 unfold o7y o77
 have step:∀ k:Nat,k<2->o7z m p k=(if (!(b2q (if (k:Int)=0 then p.Values.1 else p.Values.2) 0 (b56 m k)))=true then some (.br (.inr false)) else some (.nx ((k:Int)+1))):=fun k hk=>by
  have h2:(k:Int)<2:=by omega
  have e:∀ x y:Int,b2b x 0 y=b2q x 0 y:=fun x y=>by rw [Bool.eq_iff_iff,b6g,b6t]
  unfold o7z o70
  simp only [h2,decide_true,if_true,c2x (show In (k:Int) 2 from ⟨by omega,by omega⟩),bS9,Int.ofNat_lt,e]
  rcases o8s (m:=m) (k:=k) with ⟨h3,c,h4,h5⟩|⟨h3,h4⟩
  ·simp only [h3,decide_true,if_true,h4,bS9,h5,b2r hk (show 2<=maxLen by decide)]
  ·simp only [h3,decide_false,fT9,if_false,h4,b2r hk (show 2<=maxLen by decide)]
 rw [c7s (f:=o7z m p) (n:=2) (p:=fun k=>!(b2q (if (k:Int)=0 then p.Values.1 else p.Values.2) 0 (b56 m k))) (e:=fun _=>.inr false) (u:=.inl ()) (fun t ht hp=>by rw [step t ht,if_pos hp]) (fun t ht hp=>by rw [step t ht,if_neg (by rw [hp]; simp)]) (by rfl),o8t]
 obtain ⟨b,h1,h2⟩:=o8q hm (p:=p)
 have e:b2b p.State 0 (wr ((List.length m.States:Int) - 1))=b:=by rw [<- h1,Bool.eq_iff_iff,b6g,b6t]
 rw [e]
 cases b with
 | false=>exact ⟨false,rfl,by rw [<- h2]; simp⟩
 | true =>
  rw [if_neg (by simp),<- h2]
  cases b5q 2 (fun k=>!(b2q (if (k:Int)=0 then p.Values.1 else p.Values.2) 0 (b56 m k))) with
  | none=>exact ⟨true,rfl,by simp⟩
  | some t=>exact ⟨false,rfl,by simp⟩
theorem o82 {m:Machine} (hs:SizesOk m):c1y ⟨m⟩=some ((2 ^ m.Inputs.length:Nat):Int):=by
 unfold c1y
 have := hs.i
 simp only
 rw [c83 (by omega)]; simp
theorem p3i {m:Machine} (hm:OkM m) (x:Int):∃ b,p2c ⟨m⟩ x=some b/\(b=true ↔ OkX m x):=by
 unfold p2c
 have := p2a hm.z
 rw [o82 hm.z,bS9,c1n (b1o (by omega))]
 refine ⟨_,rfl,?_⟩
 rw [b6t]
 unfold OkX In
 omega
theorem z24 {m:Machine} (hf:∀ n∈b3g m,n.size<=maxLen) (hm:OkM m) {p:Place} (hp:OkP m p) {x:Int} (hx:OkX m x):p2f m p x=some (nxt m p x,0):=by
 obtain ⟨e,h1,h2⟩:=g5k hf
 have he:e=0:=by
  rcases h2 with ⟨h,_⟩|⟨_,h⟩
  ·exact h
  ·exact absurd hm h
 subst he
 unfold p2f
 obtain ⟨b,a1,a2⟩:=o8o hm p
 obtain ⟨d,a5,a6⟩:=p3i hm x
 rw [h1,bS9,if_neg (by simp),show b3h m=⟨⟨m⟩⟩ from rfl]
 simp only
 rw [a1,a5,a2.2 hp,a6.2 hx,bS9,bS9]
 simp only [Bool.not_true,fT9,if_false,bS9]
 rw [g5u hm hp]; rfl
theorem z3k:((List.range 5).all fun n=>(List.range (2 ^ n)).all fun x=>(List.range n).all fun i=>(List.range 2).all fun v=>decide (((shl .i64 1 (i:Int)).bind fun q6=>(shl .i64 (v:Int) (i:Int)).bind fun q7=>some (decide (0<=bor (g6a (x:Int) q6) q7/\bor (g6a (x:Int) q6) q7<(2:Int) ^ n)))=some true))=true:=by decide +kernel
theorem z3l {n x i v:Nat} (hn:n<5) (hx:x<2 ^ n) (hi:i<n) (hv:v<2):((shl .i64 1 (i:Int)).bind fun q6=>(shl .i64 (v:Int) (i:Int)).bind fun q7=>some (decide (0<=bor (g6a (x:Int) q6) q7/\bor (g6a (x:Int) q6) q7<(2:Int) ^ n)))=some true:=by
 have g:=List.all_eq_true.1 z3k n (List.mem_range.2 hn)
 have g:=List.all_eq_true.1 g x (List.mem_range.2 hx)
 have g:=List.all_eq_true.1 g i (List.mem_range.2 hi)
 have g:=List.all_eq_true.1 g v (List.mem_range.2 hv)
 exact of_decide_eq_true g
def Gk (a:Accident) (th:Theory) (l:List Int) (w:List Nat) (j:Nat):Prop:=∃ y:Nat,l[j]?=some (y:Int)/\y<nA a/\c25 a.Machine (pat (stA a th) 0 zero w j) (y:Int) a.Assume=true
def Hk (a:Accident) (th:Theory) (i:Nat) (w:List Nat) (k:Nat):Bool:=hold a i (pat (stA a th) 0 zero w k) (w.getD k 0)
theorem z23 {a:Accident} {th:Theory} {i:Nat} {w:List Nat} {k y:Nat} (hy:w[k]?=some y):Hk a th i w k=hold a i (pat (stA a th) 0 zero w k) y:=by
 unfold Hk; rw [List.getD_eq_getElem?_getD,hy]; rfl
section
variable {a:Accident} {th:Theory} (hf:∀ n∈b3g a.Machine,n.size<=maxLen) (ha:OkA a) (hth:OkT a th)
include ha hth
theorem z3j {t x:Nat} (hx:x<nA a):OkX a.Machine (hdT th t x):=by
 have hz:=ha.m.z.i
 unfold hdT hdO OkX In
 by_cases hc:(decide (th.Input<0) || decide ((t:Int)<th.From))=true
 ·rw [if_pos hc]
  show 0<=(x:Int)/\(x:Int)<_
  unfold nA at hx; constructor
  ·omega
  ·exact Int.ofNat_lt.2 hx
 ·rw [if_neg hc]
  rcases u5f hth ha with ⟨h,_⟩|⟨h1,h2,h3⟩
  ·simp at hc; omega
  unfold In at h1
  obtain ⟨i,hi2⟩:∃ i:Nat,th.Input=i:=⟨th.Input.toNat,by omega⟩
  obtain ⟨v,hv⟩:∃ v:Nat,th.Value=v:=⟨th.Value.toNat,by omega⟩
  rw [hi2,hv]
  have g:=z3l (n:=a.Machine.Inputs.length) (x:=x) (i:=i) (v:=v) (by omega) hx (by omega) (by omega)
  obtain ⟨q6,g1,g2⟩:=bE9.1 g
  obtain ⟨q7,g3,g4⟩:=bE9.1 g2
  have g5:=of_decide_eq_true (Option.some.inj g4)
  rw [g1,bS9,g3,bS9]
  have e:(((2 ^ a.Machine.Inputs.length:Nat)):Int)=(2:Int) ^ a.Machine.Inputs.length:=by simp
  show 0<=bor (g6a (x:Int) q6) q7/\bor (g6a (x:Int) q6) q7<_
  exact ⟨g5.1,by rw [e]; exact g5.2⟩
include hf
theorem z11 {w:List Nat}:∀ k,OkP a.Machine (pat (stA a th) 0 zero w k):=by
 have key:∀ (w:List Nat) (t:Nat) (p:Place),OkP a.Machine p->∀ k,OkP a.Machine (pat (stA a th) t p w k):=by
  intro w
  induction w with
  | nil=>intro t p hp k; cases k <;> exact hp
  | cons x xs ih =>
   intro t p hp k
   cases k with
   | zero=>exact hp
   | succ k=>exact ih _ _ (s1f ha.m hp _) k
 exact key w 0 zero (o5b ha.m)
omit hf ha hth in
theorem z3w {v:List Nat} {l:List Int} (hv:toI v=l):v=l.map Int.toNat:=by
 rw [<- hv]; unfold toI; rw [List.map_map]
 exact (List.map_id v).symm.trans (List.map_congr_left fun i _=>by simp)
theorem z3i (hs:Small a) {l:List Int}:∃ b,z1v a th l=some b/\(b=true ↔ ∃ w,toI w=l/\K50 a th (fun _=>true) ftT w):=by
 have hT:=s9b ha
 have h6:=tA6 hs
 have h16:=u3y ha
 have hn8:=ha.n
 unfold z1v
 by_cases hlen:(l.length:Int)=a.Ticks
 case neg =>
  rw [if_pos (by simpa using hlen)]
  refine ⟨false,rfl,(fun h=>by cases h),fun ⟨w,h1,h2⟩=>absurd ?_ hlen⟩
  rw [<- h1,s95,h2.1,hT]
 rw [if_neg (by simpa using hlen)]
 have hl:l.length=tA a:=by omega
 -- the first loop: where the inputs lead,if they are possible
 obtain ⟨w,hwd⟩:∃ w,w=l.map Int.toNat:=⟨_,rfl⟩
 have hwl:w.length=l.length:=by rw [hwd]; simp
 obtain ⟨b,h1,h2⟩:=j7u (f:=z1w a th l) l.length (fun (s:List Place) k=>(s,k)) (fun k s=>s=tab (k+1) (fun j=>pat (stA a th) 0 zero w j)/\∀ j,j<k->Gk a th l w j)
  (fun b=>(b = .inr false/\¬ ∀ j,j<l.length->Gk a th l w j)\/(b = .inl (tab (l.length+1) (fun j=>pat (stA a th) 0 zero w j))/\∀ j,j<l.length->Gk a th l w j)) (fun s k hk ⟨i0,i1⟩=>by
   subst i0
   obtain ⟨x,hx⟩:=b3b hk
   have hp:=z11 hf ha hth (w:=w) k
   unfold z1w
   have hgt:get (tab (k+1) fun j=>pat (stA a th) 0 zero w j) (k:Int)=some (pat (stA a th) 0 zero w k):=c2y (by omega)
   simp only [Int.ofNat_lt,hk,decide_true,if_true,b1h hx,hgt,bS9,c74]
   rw [u5e ha]
   have bad:¬ Gk a th l w k->¬ ∀ j,j<l.length->Gk a th l w j:=fun h q=>h (q k hk)
   by_cases hlo:x<0
   ·simp only [hlo,decide_true,if_true,bS9]
    refine .inr ⟨_,rfl,.inl ⟨rfl,bad fun ⟨y,q1,_⟩=>?_⟩⟩
    rw [hx] at q1; cases q1; omega
   by_cases hhi:((nA a:Nat):Int)<=x
   ·simp only [hlo,hhi,decide_true,decide_false,fT9,if_false,if_true,bS9]
    refine .inr ⟨_,rfl,.inl ⟨rfl,bad fun ⟨y,q1,q2,_⟩=>?_⟩⟩
    rw [hx] at q1; cases q1; omega
   simp only [hlo,hhi,decide_false,fT9,if_false,bS9]
   rw [d5o ha.m.z hp.s ha.asu,bS9]
   cases hal:c25 a.Machine (pat (stA a th) 0 zero w k) x a.Assume with
   | false =>
    simp only [Bool.not_false,bS9,if_true]
    refine .inr ⟨_,rfl,.inl ⟨rfl,bad fun ⟨y,q1,q2,q3⟩=>?_⟩⟩
    rw [hx] at q1; cases q1; rw [hal] at q3; cases q3
   | true =>
    simp only [Bool.not_true,bS9,fT9,if_false]
    obtain ⟨y,hy⟩:∃ y:Nat,x=y:=⟨x.toNat,by omega⟩
    subst hy
    have hyn:y<nA a:=by omega
    have hwk:w[k]?=some y:=by
     rw [hwd,List.getElem?_map,hx]; rfl
    have hps:pat (stA a th) 0 zero w (k+1)=nxt a.Machine (pat (stA a th) 0 zero w k) (hdT th k y):=by
     rw [x55 hwk,Nat.zero_add]; rfl
    rw [u47 ha hth hyn,bS9,z24 hf ha.m hp (z3j ha hth hyn),bS9]
    simp only [not_true,decide_false,fT9,if_false]
    have hp2:=z11 hf ha hth (w:=w) (k+1)
    rw [hps] at hp2
    obtain ⟨b,b1,b2⟩:=o83 ha.m (nxt a.Machine (pat (stA a th) 0 zero w k) (hdT th k y))
    rw [b1,b2.2 hp2,bS9,bS9]
    simp only [Bool.not_true,fT9,if_false]
    rw [b6d (by rw [b3y]; omega) (by simp) (by omega),bS9,b2r hk (D5s (show l.length<=6 by omega))]
    refine .inl ⟨tab (k+1+1) (fun j=>pat (stA a th) 0 zero w j),?_,rfl,fun j hj=>?_⟩
    ·rw [l5w (n:=k+1),hps]
    ·by_cases e:j=k
     ·subst e; exact ⟨y,hx,hyn,hal⟩
     ·exact i1 j (by omega)) (fun s ⟨i0,i1⟩=>by
   subst i0
   refine ⟨.inl (tab (l.length+1) (fun j=>pat (stA a th) 0 zero w j)),?_,.inr ⟨rfl,i1⟩⟩
   unfold z1w
   simp only [Int.lt_irrefl,decide_false,fT9,if_false]) 0 (Nat.zero_le _) (s:=[zero]) ⟨rfl,fun j hj=>by omega⟩
 have h1':b0w (z1w a th l) ([Place.mk 0 (0,0)],0)=some b:=h1
 rw [h1',bS9]
 -- a course has these inputs
 have hG:∀ v,toI v=l->K50 a th (fun _=>true) ftT v->v=w/\∀ j,j<l.length->Gk a th l w j:=fun v hv hF=>by
  have e:v=w:=(z3w hv).trans hwd.symm
  refine ⟨e,fun j hj=>?_⟩
  rw [e] at hv hF
  obtain ⟨y,hy⟩:=b3b (l:=w) (k:=j) (by omega)
  obtain ⟨q1,q2⟩:=(x5o w 0 zero).1 hF.2.1 j y hy
  refine ⟨y,?_,q1,?_⟩
  ·rw [<- hv]; unfold toI; rw [List.getElem?_map,hy]; rfl
  ·unfold okA at q2; exact (Bool.and_eq_true_iff.1 q2).1
 rcases h2 with ⟨rfl,hno⟩|⟨rfl,hall⟩
 ·exact ⟨false,rfl,(fun h=>by cases h),fun ⟨v,q1,q2⟩=>absurd (hG v q1 q2).2 hno⟩
 simp only
 have hw:toI w=l:=by
  apply List.ext_getElem?
  intro i
  rw [hwd]; unfold toI
  rw [List.map_map,List.getElem?_map]
  cases hi:l[i]? with
  | none=>rfl
  | some x =>
   obtain ⟨y,hy,_⟩:=hall i (b1k hi)
   rw [hi] at hy; cases hy
   rfl
 have hat:∀ (k:Nat) y,w[k]?=some y->y<nA a/\c25 a.Machine (pat (stA a th) 0 zero w k) ((y:Nat):Int) a.Assume=true:=fun k y hy=>by
  have hk:=b1k hy
  obtain ⟨x,q1,q2,q3⟩:=hall k (by omega)
  have : y=x:=by
   have hy':=hy
   rw [hwd,List.getElem?_map,q1] at hy'
   exact (Option.some.inj hy').symm
  subst this; exact ⟨q2,q3⟩
 -- the records
 unfold z2d
 have hrec:∀ (i:Nat) r,a.Records[i]?=some r->∃ e s,b0w (y25 a l (tab (l.length+1) (fun j=>pat (stA a th) 0 zero w j)) r) (true,false,r.From)=some (e,s) /\
   ((((r.All && !e) || !s)=true) ↔ ¬ b69 (fr a) (to a) (al a) (hold a) (stA a th) i 0 false zero w):=fun i r hr=>by
  obtain ⟨r',hr',eR,ef,et,hft,htT,hc⟩:=u2g ha (b1k hr)
  rw [hr] at hr'; cases hr'
  have hb:∀ k:Nat,k<=to a i->∃ y:Nat,w[k]?=some y/\get l (k:Int)=some (y:Int):=fun k hk=>by
   obtain ⟨y,hy⟩:=b3b (l:=w) (k:=k) (by omega)
   refine ⟨y,hy,b1h ?_⟩
   rw [<- hw]; unfold toI; rw [List.getElem?_map,hy]; rfl
  have hH:∀ k y,w[k]?=some y->Hk a th i w k=hold a i (pat (stA a th) 0 zero w k) y:=fun k y hy=>z23 hy
  obtain ⟨b,g1,g2⟩:=j7u (f:=y25 a l (tab (l.length+1) (fun j=>pat (stA a th) 0 zero w j)) r) (to a i+1 - fr a i) (fun (s:Bool × Bool) k=>(s.1,s.2,(fr a i:Int)+k))
   (fun k s=>(s.1=true ↔ ∀ j,j<k->Hk a th i w (fr a i+j)=true)/\(s.2=true ↔ ∃ j,j<k/\Hk a th i w (fr a i+j)=true))
   (fun s=>(s.1=true ↔ ∀ j,j<to a i+1 - fr a i->Hk a th i w (fr a i+j)=true)/\(s.2=true ↔ ∃ j,j<to a i+1 - fr a i/\Hk a th i w (fr a i+j)=true)) (fun s k hk ⟨i1,i2⟩=>by
    have hle:(fr a i:Int)+(k:Int)<=r.To:=by clear i1 i2; omega
    obtain ⟨y,hy,hgy⟩:=hb (fr a i+k) (by omega)
    have hp:=z11 hf ha hth (w:=w) (fr a i+k)
    have hgt:get (tab (l.length+1) fun j=>pat (stA a th) 0 zero w j) (((fr a i+k:Nat)):Int)=some (pat (stA a th) 0 zero w (fr a i+k)):=c2y (by omega)
    have ec:(fr a i:Int)+(k:Int)=((fr a i+k:Nat):Int):=by clear i1 i2; omega
    have hhold:b46 a.Machine (pat (stA a th) 0 zero w (fr a i+k)) (y:Int) r.Cond=Hk a th i w (fr a i+k):=by
     rw [hH _ _ hy]; unfold hold; rw [eR]
    unfold y25
    simp only [hle,decide_true,if_true]
    rw [ec,hgt,bS9,hgy,bS9,c5x ha.m.z hp.s hc,bS9,hhold,b3t (by omega) (by omega)]
    refine .inl ⟨(s.1 && Hk a th i w (fr a i+k),s.2 || Hk a th i w (fr a i+k)),by congr 4,?_,?_⟩
    ·simp only [Bool.and_eq_true,i1]
     constructor
     ·rintro ⟨q1,q2⟩ j hj
      by_cases e:j=k
      ·subst e; exact q2
      ·exact q1 j (by omega)
     ·intro q; exact ⟨fun j hj=>q j (by omega),q k (by omega)⟩
    ·simp only [Bool.or_eq_true,i2]
     constructor
     ·rintro (⟨j,q1,q2⟩|q)
      ·exact ⟨j,by omega,q2⟩
      ·exact ⟨k,by omega,q⟩
     ·rintro ⟨j,q1,q2⟩
      by_cases e:j=k
      ·subst e; exact .inr q2
      ·exact .inl ⟨j,by omega,q2⟩) (fun s ⟨i1,i2⟩=>by
    refine ⟨s,?_,i1,i2⟩
    unfold y25
    have : ¬ (fr a i:Int)+((to a i+1 - fr a i:Nat):Int)<=r.To:=by omega
    simp only [this,decide_false,fT9,if_false]) 0 (Nat.zero_le _) (s:=(true,false)) ⟨by simp,by simp⟩
  have g1':b0w (y25 a l (tab (l.length+1) (fun j=>pat (stA a th) 0 zero w j)) r) (true,false,r.From)=some b:=by
   rw [ef,<- g1]; congr 3
  refine ⟨b.1,b.2,g1',?_⟩
  have hAl:al a i=r.All:=by unfold al; rw [eR]
  rw [y9k,<- hAl]
  obtain ⟨g3,g4⟩:=g2
  have hall2:(∀ j,j<to a i+1 - fr a i->Hk a th i w (fr a i+j)=true) ↔ ∀ k x,w[k]?=some x->fr a i<=0+k->0+k<=to a i->hold a i (pat (stA a th) 0 zero w k) x=true:=by
   constructor
   ·intro q k x hk q1 q2
    have := q (k - fr a i) (by omega)
    rw [show fr a i+(k - fr a i)=k by omega,hH k x hk] at this; exact this
   ·intro q j hj
    obtain ⟨y,hy,_⟩:=hb (fr a i+j) (by omega)
    rw [hH _ _ hy]; exact q _ y hy (by omega) (by omega)
  have hex2:(∃ j,j<to a i+1 - fr a i/\Hk a th i w (fr a i+j)=true) ↔ ∃ k x,w[k]?=some x/\fr a i<=0+k/\0+k<=to a i/\hold a i (pat (stA a th) 0 zero w k) x=true:=by
   constructor
   ·rintro ⟨j,q1,q2⟩
    obtain ⟨y,hy,_⟩:=hb (fr a i+j) (by omega)
    exact ⟨_,y,hy,by omega,by omega,by rw [hH _ _ hy] at q2; exact q2⟩
   ·rintro ⟨k,x,hk,q1,q2,q3⟩
    refine ⟨k - fr a i,by omega,?_⟩
    rw [show fr a i+(k - fr a i)=k by omega,hH k x hk]; exact q3
  cases hA:al a i with
  | true =>
   rw [if_pos rfl,<- hall2,<- g3]
   have : b.1=true->b.2=true:=fun q=>g4.2 ⟨0,by omega,(g3.1 q) 0 (by omega)⟩
   cases hb1:b.1 <;> cases hb2:b.2 <;> simp_all
  | false =>
   rw [if_neg (by simp),<- hex2,<- g4]
   cases hb1:b.1 <;> cases hb2:b.2 <;> simp
 have hA:∀ i:Nat,i<a.Records.length->∃ r,a.Records[i]?=some r:=fun i hi=>b3b hi
 rcases b4j (f:=z10 a l (tab (l.length+1) (fun j=>pat (stA a th) 0 zero w j))) (l:=a.Records) (p:=fun i _=>¬ b69 (fr a) (to a) (al a) (hold a) (stA a th) i 0 false zero w) (e:=.inr false) (u:=.inl ()) (D5s hn8) (fun k r hr=>by
   obtain ⟨e,s,q1,q2⟩:=hrec k r hr
   refine ⟨(r.All && !e) || !s,?_,q2⟩
   unfold z10
   simp only [Int.ofNat_lt,b1k hr,decide_true,if_true,b1h hr,bS9,q1]
   unfold z2c z2b
   cases ((r.All && !e) || !s) <;> simp) (by
   unfold z10
   simp only [Int.lt_irrefl,decide_false,fT9,if_false]) with ⟨q1,q2⟩|⟨⟨k,r,q1,q2⟩,q3⟩
 ·rw [q2]
  refine ⟨true,rfl,fun _=>⟨w,hw,?_⟩,fun _=>rfl⟩
  refine ⟨by rw [hwl]; exact hl,(x5o w 0 zero).2 fun k y hy=>?_,fun i hi _=>?_⟩
  ·obtain ⟨r1,r2⟩:=hat k y hy
   refine ⟨r1,?_⟩
   unfold okA
   rw [r2]; rfl
  ·obtain ⟨r,hr⟩:=hA i hi
   exact Classical.not_not.1 (q1 i r hr)
 ·rw [q3]
  refine ⟨false,rfl,(fun h=>by cases h),fun ⟨v,r1,r2⟩=>?_⟩
  obtain ⟨rfl,_⟩:=hG v r1 r2
  exact absurd (r2.2.2 k (b1k q1) rfl) q2
end
end
end Go.Nw.AM
namespace Go.Nw.AM
noncomputable section
theorem L0w {x:l10_Past} {y:List Theory × Int} (h:y.1.length<=maxLen):b0w (K75 x y) (false,0)=some (y.1.any fun t=>decide (t=x.Theory)):=by
 refine b4h (f:=K75 x y) y.1.length (fun (s:Bool) k=>(s,k)) (fun k=>(y.1.take k).any fun t=>decide (t=x.Theory)) _ (by simp) (fun k hk=>?_) ?_
 ·obtain ⟨t,ht⟩:=b3b hk
  have et:y.1.take (k+1)=y.1.take k++[t]:=by rw [List.take_add_one,ht]; rfl
  have e1:(decide (t.Input=x.Theory.Input) && decide (t.Value=x.Theory.Value) && decide (t.From=x.Theory.From))=decide (t=x.Theory):=by
   obtain ⟨a1,a2,a3⟩:=t
   generalize x.Theory=z
   obtain ⟨b1,b2,b3⟩:=z
   rw [Bool.eq_iff_iff]; simp only [Bool.and_eq_true,decide_eq_true_eq,Theory.mk.injEq,and_assoc]
  unfold K75
  simp only [Int.ofNat_lt,hk,decide_true,if_true,b1h ht,bS9,e1]
  rw [et,List.any_append,b2r hk h]
  cases (y.1.take k).any fun t=>decide (t=x.Theory) <;> simp
 ·unfold K75
  simp only [Int.lt_irrefl,decide_false,fT9,if_false,List.take_length]
theorem L0v {a:Accident} (ha:OkA a) {t:Theory} (ht:OkT a t):((K66 a).any fun s=>decide (s=t))=psb a t:=by
 rw [Bool.eq_iff_iff,List.any_eq_true]
 constructor
 ·rintro ⟨s,hs,he⟩
  have e:=of_decide_eq_true he
  subst e
  exact (List.mem_filter.1 hs).2
 ·intro h
  exact ⟨t,List.mem_filter.2 ⟨(K7a ha).2 ht,h⟩,by simp⟩
section
variable [Bd]
theorem L0r (a:Accident) (x:l10_Past) (hm:s9d a) (hx:z28 x):K97 a x=some true:=by
 have hf:=u9q hm
 unfold K97
 rcases u6h hf with h|⟨hn,h,hs⟩
 ·rw [h]; rfl
 rw [h,bS9,if_neg (by simp),u4j hf hn,bS9,bS9]
 by_cases hc:(decide (¬J24 a=0) || !l59 a x.Theory)=true
 ·rw [if_pos hc]; rfl
 rw [if_neg hc]
 simp only [Bool.or_eq_true,Bool.not_eq_true',decide_eq_true_eq,not_or,Bool.not_eq_false,Classical.not_not] at hc
 obtain ⟨he,hth⟩:=hc
 have hth:OkT a x.Theory:=hth
 have hs':Small a:=by
  rcases hs with h|h
  ·exact absurd he h
  ·exact h
 have ha:=hs'.ok
 have h6:=tA6 hs'
 have hi:=hs'.i
 obtain ⟨r,p1,_,p2⟩:=u6i (th:=x.Theory) hf hn hs
 obtain ⟨q,q1,_,q2,q3⟩:=u6f (th:=x.Theory) hf hn hs
 rcases p2 with ⟨z,_⟩|⟨_,_,p3,p4⟩
 ·exact absurd (u27.2 ⟨ha,hth⟩) z
 rcases q3 with ⟨z,_⟩|⟨_,_,q4⟩
 ·exact absurd (u27.2 ⟨ha,hth⟩) z
 have hlen:(K66 a).length<=maxLen:=by
  refine Nat.le_trans (List.length_filter_le _ _) ?_
  rw [K6q]
  have : a.Machine.Inputs.length * (2 * tA a)<=2 * (2 * 6):=Nat.mul_le_mul (by omega) (by omega)
  simp only [maxLen]; omega
 have hnm:=L0v ha hth
 rw [p1,bS9,q1,bS9,K7z hf ha,bS9,L0w hlen,bS9]
 simp only [hnm]
 have e1:r.1=psb a x.Theory:=by rw [Bool.eq_iff_iff,p4,K6z]
 unfold K99
 simp only [e1,p3]
 obtain ⟨b2,d1,d2⟩:=z3i hf ha hth hs' (l:=x.Inputs)
 rcases q4 with ⟨w,hw,rfl⟩|⟨hw,rfl⟩
 ·have ep:psb a x.Theory=true:=K6z.2 ⟨w,hw.1⟩
  obtain ⟨b1,c1,c2⟩:=z3i hf ha hth hs' (l:=toI w)
  have eb1:b1=true:=c2.2 ⟨w,rfl,hw.1⟩
  subst eb1
  simp only [ep,c1,d1,bS9,Bool.not_true,fT9,if_false,if_true]
  rw [if_neg (by simp [b5c])]
  cases b2 with
  | false=>rfl
  | true =>
   obtain ⟨v,hv,hF⟩:=d2.1 rfl
   rw [<- hv]
   have hl:=hw.2 v hF
   have l1:w.length=tA a:=hw.1.1
   have l2:v.length=tA a:=hF.1
   rw [x9h (by omega) (by omega) hl]
   simp [u10]
 ·have ep:psb a x.Theory=false:=by
   cases hp:psb a x.Theory with
   | false=>rfl
   | true=>obtain ⟨w,h⟩:=K6z.1 hp; exact absurd h (hw w)
  have eb2:b2=false:=by
   cases b2 with
   | false=>rfl
   | true=>obtain ⟨v,_,hF⟩:=d2.1 rfl; exact absurd hF (hw v)
  subst eb2
  simp only [ep,d1,bS9,Bool.not_false,fT9,if_false,if_true]
  rw [if_neg (by simp [b5c])]
  rfl
end
end
end Go.Nw.AM
