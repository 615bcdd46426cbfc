/- Plain laws on the models. -/
import Derived.Test.YtccjacnppmciaaaGreatDoorAM
import Derived.Test.YtccjacnppmciaaaGreatDoorNwTypes
import Derived.Test.YtccjacnppmciaaaGreatDoorP4
set_option linter.all false
namespace Go.Nw.AM
variable [Bd]
def c68 (x:ByteArray):Prop:=x.size<=Bd.B
theorem l4q {r:List AV} (h:MtL [.s] r):∃ x:ByteArray,r=eS x/\c68 x:=by
 obtain ⟨a0,r0,rfl,h0,g0⟩:=b3e h;obtain ⟨v0,rfl,k0⟩:=d4c h0;exact ⟨v0,by rw [b6o g0]; rfl,k0⟩
theorem g1x {a:AV} (h:Mt (.sl [.s]) a):∃ l:List ByteArray,a = .fs 1 (l.map eS)/\OkL c68 l:=by
 obtain ⟨l,rfl,h1,h2⟩:=b8q eS c68 h fun r hr=>l4q hr;exact ⟨l,rfl,h1,h2⟩
def r8n (x:Counter):Prop:=c68 x.Name/\b5k x.Max
theorem l4l {r:List AV} (h:MtL [.s,.i .i64] r):∃ x:Counter,r=b0o x/\r8n x:=by
 obtain ⟨a0,r0,rfl,h0,g0⟩:=b3e h;obtain ⟨a1,r1,rfl,h1,g1⟩:=b3e g0;obtain ⟨v0,rfl,k0⟩:=d4c h0;obtain ⟨v1,rfl,k1⟩:=b6n h1;exact ⟨⟨v0,v1⟩,by rw [b6o g1]; rfl,⟨k0,k1⟩⟩
theorem j8e {a:AV} (h:Mt (.sl [.s,.i .i64]) a):∃ l:List Counter,a = .fs 2 (l.map b0o)/\OkL r8n l:=by
 obtain ⟨l,rfl,h1,h2⟩:=b8q b0o r8n h fun r hr=>l4l hr;exact ⟨l,rfl,h1,h2⟩
def y9d (x:State):Prop:=c68 x.Name/\b5k x.Shows
theorem l4s {r:List AV} (h:MtL [.s,.i .i64] r):∃ x:State,r=b0p x/\y9d x:=by
 obtain ⟨a0,r0,rfl,h0,g0⟩:=b3e h;obtain ⟨a1,r1,rfl,h1,g1⟩:=b3e g0;obtain ⟨v0,rfl,k0⟩:=d4c h0;obtain ⟨v1,rfl,k1⟩:=b6n h1;exact ⟨⟨v0,v1⟩,by rw [b6o g1]; rfl,⟨k0,k1⟩⟩
theorem j8i {a:AV} (h:Mt (.sl [.s,.i .i64]) a):∃ l:List State,a = .fs 2 (l.map b0p)/\OkL y9d l:=by
 obtain ⟨l,rfl,h1,h2⟩:=b8q b0p y9d h fun r hr=>l4s hr;exact ⟨l,rfl,h1,h2⟩
def b5x (x:Literal):Prop:=b5k x.Kind/\b5k x.Number/\b5k x.Value/\True
theorem l4n {r:List AV} (h:MtL [.i .i64,.i .i64,.i .i64,.b] r):∃ x:Literal,r=b3k x/\b5x x:=by
 obtain ⟨a0,r0,rfl,h0,g0⟩:=b3e h;obtain ⟨a1,r1,rfl,h1,g1⟩:=b3e g0;obtain ⟨a2,r2,rfl,h2,g2⟩:=b3e g1;obtain ⟨a3,r3,rfl,h3,g3⟩:=b3e g2;obtain ⟨v0,rfl,k0⟩:=b6n h0;obtain ⟨v1,rfl,k1⟩:=b6n h1;obtain ⟨v2,rfl,k2⟩:=b6n h2;obtain ⟨v3,rfl,k3⟩:=j8k h3;exact ⟨⟨v0,v1,v2,v3⟩,by rw [b6o g3]; rfl,⟨k0,k1,k2,k3⟩⟩
theorem j8f {a:AV} (h:Mt (.sl [.i .i64,.i .i64,.i .i64,.b]) a):∃ l:List Literal,a = .fs 4 (l.map b3k)/\OkL b5x l:=by
 obtain ⟨l,rfl,h1,h2⟩:=b8q b3k b5x h fun r hr=>l4n hr;exact ⟨l,rfl,h1,h2⟩
theorem l4m {r:List AV} (h:MtL [.sl [.i .i64,.i .i64,.i .i64,.b]] r):∃ x:List Literal,r=b0t x/\OkL b5x x:=by
 obtain ⟨a0,r0,rfl,h0,g0⟩:=b3e h;obtain ⟨v0,rfl,k0⟩:=j8f h0;exact ⟨v0,by rw [b6o g0]; rfl,k0⟩
theorem d4b {a:AV} (h:Mt (.sl [.sl [.i .i64,.i .i64,.i .i64,.b]]) a):∃ l:List (List Literal),a = .fs 1 (l.map b0t)/\OkL (OkL b5x) l:=by
 obtain ⟨l,rfl,h1,h2⟩:=b8q b0t (OkL b5x) h fun r hr=>l4m hr;exact ⟨l,rfl,h1,h2⟩
def z15 (x:Set):Prop:=b5k x.Kind/\b5k x.Counter
theorem l4r {r:List AV} (h:MtL [.i .i64,.i .i64] r):∃ x:Set,r=b2o x/\z15 x:=by
 obtain ⟨a0,r0,rfl,h0,g0⟩:=b3e h;obtain ⟨a1,r1,rfl,h1,g1⟩:=b3e g0;obtain ⟨v0,rfl,k0⟩:=b6n h0;obtain ⟨v1,rfl,k1⟩:=b6n h1;exact ⟨⟨v0,v1⟩,by rw [b6o g1]; rfl,⟨k0,k1⟩⟩
theorem j8h {a:AV} (h:Mt (.sl [.i .i64,.i .i64]) a):∃ l:List Set,a = .fs 2 (l.map b2o)/\OkL z15 l:=by
 obtain ⟨l,rfl,h1,h2⟩:=b8q b2o z15 h fun r hr=>l4r hr;exact ⟨l,rfl,h1,h2⟩
def y9c (x:Rule):Prop:=b5k x.From/\b5k x.To/\OkL (OkL b5x) x.When/\OkL z15 x.Sets
theorem l4p {r:List AV} (h:MtL [.i .i64,.i .i64,.sl [.sl [.i .i64,.i .i64,.i .i64,.b]],.sl [.i .i64,.i .i64]] r):∃ x:Rule,r=b0m x/\y9c x:=by
 obtain ⟨a0,r0,rfl,h0,g0⟩:=b3e h;obtain ⟨a1,r1,rfl,h1,g1⟩:=b3e g0;obtain ⟨a2,r2,rfl,h2,g2⟩:=b3e g1;obtain ⟨a3,r3,rfl,h3,g3⟩:=b3e g2;obtain ⟨v0,rfl,k0⟩:=b6n h0;obtain ⟨v1,rfl,k1⟩:=b6n h1;obtain ⟨v2,rfl,k2⟩:=d4b h2;obtain ⟨v3,rfl,k3⟩:=j8h h3;exact ⟨⟨v0,v1,v2,v3⟩,by rw [b6o g3]; rfl,⟨k0,k1,k2,k3⟩⟩
theorem j8g {a:AV} (h:Mt (.sl [.i .i64,.i .i64,.sl [.sl [.i .i64,.i .i64,.i .i64,.b]],.sl [.i .i64,.i .i64]]) a):∃ l:List Rule,a = .fs 4 (l.map b0m)/\OkL y9c l:=by
 obtain ⟨l,rfl,h1,h2⟩:=b8q b0m y9c h fun r hr=>l4p hr;exact ⟨l,rfl,h1,h2⟩
def b9d (x:Machine):Prop:=OkL c68 x.Inputs/\OkL c68 x.Outputs/\OkL r8n x.Counters/\OkL y9d x.States/\OkL y9c x.Rules
def u1r (x:Record):Prop:=b5k x.From/\b5k x.To/\True/\OkL (OkL b5x) x.Cond
theorem u9e {r:List AV} (h:MtL [.i .i64,.i .i64,.b,.sl [.sl [.i .i64,.i .i64,.i .i64,.b]]] r):∃ x:Record,r=c26 x/\u1r x:=by
 obtain ⟨a0,r0,rfl,h0,g0⟩:=b3e h;obtain ⟨a1,r1,rfl,h1,g1⟩:=b3e g0;obtain ⟨a2,r2,rfl,h2,g2⟩:=b3e g1;obtain ⟨a3,r3,rfl,h3,g3⟩:=b3e g2;obtain ⟨v0,rfl,k0⟩:=b6n h0;obtain ⟨v1,rfl,k1⟩:=b6n h1;obtain ⟨v2,rfl,k2⟩:=j8k h2;obtain ⟨v3,rfl,k3⟩:=d4b h3;exact ⟨⟨v0,v1,v2,v3⟩,by rw [b6o g3]; rfl,⟨k0,k1,k2,k3⟩⟩
theorem u84 {a:AV} (h:Mt (.sl [.i .i64,.i .i64,.b,.sl [.sl [.i .i64,.i .i64,.i .i64,.b]]]) a):∃ l:List Record,a = .fs 4 (l.map c26)/\OkL u1r l:=by
 obtain ⟨l,rfl,h1,h2⟩:=b8q c26 u1r h fun r hr=>u9e hr;exact ⟨l,rfl,h1,h2⟩
def s9d (x:Accident):Prop:=b9d x.Machine/\OkL (OkL b5x) x.Assume/\b5k x.Ticks/\OkL u1r x.Records
def u7i (x:Accident):List AV:=[.fs 1 (List.map eS x.Machine.Inputs),.fs 1 (List.map eS x.Machine.Outputs),.fs 2 (List.map b0o x.Machine.Counters),.fs 2 (List.map b0p x.Machine.States),.fs 4 (List.map b0m x.Machine.Rules),.fs 1 (List.map b0t x.Assume),I x.Ticks,.fs 4 (List.map c26 x.Records)]
theorem u9d {r:List AV} (h:MtL [.sl [.s],.sl [.s],.sl [.s,.i .i64],.sl [.s,.i .i64],.sl [.i .i64,.i .i64,.sl [.sl [.i .i64,.i .i64,.i .i64,.b]],.sl [.i .i64,.i .i64]],.sl [.sl [.i .i64,.i .i64,.i .i64,.b]],.i .i64,.sl [.i .i64,.i .i64,.b,.sl [.sl [.i .i64,.i .i64,.i .i64,.b]]]] r):∃ x:Accident,r=u7i x/\s9d x:=by
 obtain ⟨a0,r0,rfl,h0,g0⟩:=b3e h;obtain ⟨a1,r1,rfl,h1,g1⟩:=b3e g0;obtain ⟨a2,r2,rfl,h2,g2⟩:=b3e g1;obtain ⟨a3,r3,rfl,h3,g3⟩:=b3e g2;obtain ⟨a4,r4,rfl,h4,g4⟩:=b3e g3;obtain ⟨a5,r5,rfl,h5,g5⟩:=b3e g4;obtain ⟨a6,r6,rfl,h6,g6⟩:=b3e g5;obtain ⟨a7,r7,rfl,h7,g7⟩:=b3e g6;obtain ⟨v0,rfl,k0⟩:=g1x h0;obtain ⟨v1,rfl,k1⟩:=g1x h1;obtain ⟨v2,rfl,k2⟩:=j8e h2;obtain ⟨v3,rfl,k3⟩:=j8i h3;obtain ⟨v4,rfl,k4⟩:=j8g h4;obtain ⟨v5,rfl,k5⟩:=d4b h5;obtain ⟨v6,rfl,k6⟩:=b6n h6;obtain ⟨v7,rfl,k7⟩:=u84 h7;exact ⟨⟨⟨v0,v1,v2,v3,v4⟩,v5,v6,v7⟩,by rw [b6o g7]; rfl,⟨⟨k0,k1,k2,k3,k4⟩,k5,k6,k7⟩⟩
abbrev u4b:List Sh:=[.sl [.s],.sl [.s],.sl [.s,.i .i64],.sl [.s,.i .i64],.sl [.i .i64,.i .i64,.sl [.sl [.i .i64,.i .i64,.i .i64,.b]],.sl [.i .i64,.i .i64]],.sl [.sl [.i .i64,.i .i64,.i .i64,.b]],.i .i64,.sl [.i .i64,.i .i64,.b,.sl [.sl [.i .i64,.i .i64,.i .i64,.b]]]]
theorem u9s {a:AV} (h:MtA (.agg u4b) a):∃ x:Accident,a = .agg [.fs 1 (List.map eS x.Machine.Inputs),.fs 1 (List.map eS x.Machine.Outputs),.fs 2 (List.map b0o x.Machine.Counters),.fs 2 (List.map b0p x.Machine.States),.fs 4 (List.map b0m x.Machine.Rules),.fs 1 (List.map b0t x.Assume),I x.Ticks,.fs 4 (List.map c26 x.Records)]/\s9d x:=by
 obtain ⟨r,rfl,hr⟩:=g1y h;obtain ⟨x,rfl,hx⟩:=u9d hr;exact ⟨x,rfl,hx⟩
end Go.Nw.AM
namespace Go.Nw.AM
noncomputable section
theorem u4a {a:Accident} {th:Theory} (ha:OkA a) (hth:OkT a th):(∃ w,Lst (K50 a th (fun _=>true) ftT) w/\u0k a th=some (toI w,true))\/((∀ w,¬ K50 a th (fun _=>true) ftT w)/\u0k a th=some ([],false)) :=
 u9k (keep:=fun _=>true) (ft:=ftT) ha hth (fun _ _=>rfl) (fun _ _ _ _ _ _=>rfl)
theorem u88 {a:Accident} {th:Theory} (hs:Small a) (hth:OkT a th):∃ b,(s8s a).bind (fun y=>z12 a th y)=some b/\(b=true ↔ ∃ w,K50 a th (fun _=>true) ftT w):=by
 have hn8:=hs.ok.n;rw [u35 (by omega),bS9];obtain ⟨b,h1,h2⟩:=u89 (l:=List.range a.Records.length) hs hth (fun i hi=>List.mem_range.1 hi) (by rw [List.length_range]; exact hn8);refine ⟨b,h1,h2.trans ?_⟩;exact ⟨fun ⟨w,hw⟩=>⟨w,(u3c fun i hi=>u3w hi).1 hw⟩,fun ⟨w,hw⟩=>⟨w,(u3c fun i hi=>u3w hi).2 hw⟩⟩
section
variable {a:Accident} {th:Theory} (hf:∀ n∈b3g a.Machine,n.size<=maxLen) (hn:a.Records.length<=10) (hs:s88 a≠0\/Small a)
include hf hn hs
end
section
variable [Bd]
theorem d5j {c:List (List Literal)} (hB:Bd.B<=1048576) (h:OkL (OkL b5x) c):d02 c:=⟨Nat.le_trans h.1 hB,fun t ht=>Nat.le_trans (h.2 t ht).1 hB⟩
theorem l5y {m:Machine} (h:b9d m):∀ n∈b3g m,n.size<=maxLen:=by
 obtain ⟨h1,h2,h3,h4,h5⟩:=h;intro n hn;have hB:=Bd.le;simp only [b3g,List.mem_append,List.mem_map] at hn;rcases hn with ((hn|hn)|⟨c,hc,rfl⟩)|⟨c,hc,rfl⟩
 ·exact Nat.le_trans (h1.2 n hn) hB
 ·exact Nat.le_trans (h2.2 n hn) hB
 ·exact Nat.le_trans (h3.2 c hc).1 hB
 ·exact Nat.le_trans (h4.2 c hc).1 hB
theorem tdm {m:Machine} (hB:Bd.B<=1048576) (h:b9d m):FewM m:=by
 have hn:=l5y h;obtain ⟨h1,h2,h3,h4,h5⟩:=h;exact ⟨Nat.le_trans h1.1 hB,Nat.le_trans h2.1 hB,Nat.le_trans h3.1 hB,Nat.le_trans h4.1 hB,Nat.le_trans h5.1 hB,fun r hr=>⟨d5j hB (h5.2 r hr).2.2.1,Nat.le_trans (h5.2 r hr).2.2.2.1 hB⟩,hn⟩
theorem tda {a:Accident} (hB:Bd.B<=1048576) (h:s9d a):FewA a:=by
 obtain ⟨h1,h2,h3,h4⟩:=h;exact ⟨tdm hB h1,d5j hB h2,fun r hr=>d5j hB (h4.2 r hr).2.2.2⟩
theorem u9q {a:Accident} (h:s9d a):∀ n∈b3g a.Machine,n.size<=maxLen:=l5y h.1
end
end
end Go.Nw.AM
namespace Go.Nw.AM
noncomputable section
def psb (a:Accident) (t:Theory):Bool:=@decide (∃ w,K50 a t (fun _=>true) ftT w) (Classical.propDecidable _)
theorem K6z {a:Accident} {t:Theory}:psb a t=true ↔ ∃ w,K50 a t (fun _=>true) ftT w:=by
 unfold psb; exact @decide_eq_true_iff _ (Classical.propDecidable _)
theorem K7g {n T:Nat} {t:Theory}:t∈l10 n T ↔ t=⟨-1,0,0⟩\/∃ i v k:Nat,i<n/\v<2/\k<T/\t=⟨i,v,k⟩:=by
 simp only [l10,List.mem_cons,List.mem_flatMap,List.mem_map,List.mem_range];constructor
 ·rintro (h|⟨i,hi,v,hv,k,hk,rfl⟩)
  ·exact .inl h
  ·exact .inr ⟨i,v,k,hi,hv,hk,rfl⟩
 ·rintro (h|⟨i,v,k,hi,hv,hk,rfl⟩)
  ·exact .inl h
  ·exact .inr ⟨i,hi,v,hv,k,hk,rfl⟩
theorem K7a {a:Accident} (ha:OkA a) {t:Theory}:t∈l10 a.Machine.Inputs.length (tA a) ↔ OkT a t:=by
 have hT:=s9b ha;constructor
 ·intro h;rcases K7g.1 h with rfl|⟨i,v,k,hi,hv,hk,rfl⟩
  ·rfl
  ·have hs:=ha.m.z.i
   unfold OkT l59;rw [if_neg (by simp <;> omega)];have w1:wr ((a.Machine.Inputs.length:Int) - 1)=(a.Machine.Inputs.length:Int) - 1:=b3t (by omega) (by omega);have w2:wr (a.Ticks - 1)=a.Ticks - 1:=by have:=ha.t; exact b3t (by omega) (by omega)
   rw [w1,w2];simp only [b98,Bool.and_eq_true,decide_eq_true_eq];omega
 ·intro h;rw [K7g];rcases u5f h ha with ⟨h1,h2,h3⟩|⟨⟨h1,h1'⟩,h2,h3⟩
  ·obtain ⟨x,y,z⟩:=t; simp only at h1 h2 h3; subst h1 h2 h3; exact .inl rfl
  ·obtain ⟨x,y,z⟩:=t; simp only at h1 h1' h2 h3;refine .inr ⟨x.toNat,y.toNat,z.toNat,by omega,by omega,by omega,?_⟩;simp only [Theory.mk.injEq]; omega
theorem K6q (n T:Nat):(l10 n T).length=1+n * (2 * T):=by
 have h1:∀ i:Nat,((List.range 2).flatMap fun (v:Nat)=>(List.range T).map fun (t:Nat)=>Theory.mk i v t).length=2 * T:=fun i=>by
  simp [List.range_succ]; omega
 have h2:∀ n:Nat,((List.range n).flatMap fun (i:Nat)=>(List.range 2).flatMap fun (v:Nat)=>(List.range T).map fun (t:Nat)=>Theory.mk i v t).length=n * (2 * T):=by
  intro n;induction n with
  | zero=>simp
  | succ n ih=>rw [List.range_succ (n:=n),List.flatMap_append,List.length_append,ih,List.flatMap_cons,List.flatMap_nil,List.append_nil,h1,Nat.add_mul,Nat.one_mul]
 show _+1=_
 rw [h2]; omega
theorem K7p {a:Accident} (ha:OkA a):∀ l:List Theory,(∀ t∈l,OkT a t)->J34 a l=some (l.filter (psb a))
 | [],_=>rfl
 | t :: l,h=>by
  have ih:=K7p ha l fun x hx=>h x (List.mem_cons_of_mem _ hx);unfold J34;rcases u4a ha (h t List.mem_cons_self) with ⟨w,hw,h3⟩|⟨hw,h3⟩
  ·have e:psb a t=true:=K6z.2 ⟨w,hw.1⟩
   rw [h3,bS9,ih,bS9,List.filter_cons_of_pos e]; rfl
  ·have e:¬ psb a t=true:=fun hp=>by
    obtain ⟨w,h⟩:=K6z.1 hp; exact hw w h
   rw [h3,bS9,ih,bS9,List.filter_cons_of_neg e]; rfl
def K66 (a:Accident):List Theory:=(l10 a.Machine.Inputs.length (tA a)).filter (psb a)
theorem K7z {a:Accident} (hf:∀ n∈b3g a.Machine,n.size<=maxLen) (ha:OkA a):K5r a=some (K66 a,0):=by
 have hT:=s9b ha;have hi:=ha.m.z.i;have ht:=ha.t;unfold K5r;rw [u6k hf (by have:=ha.n; omega),bS9,u1v.2 ha,if_neg (by simp),if_pos ⟨by omega,by omega,by omega⟩];have e:a.Ticks.toNat=tA a:=by omega
 rw [e,K7p ha _ fun t ht=>(K7a ha).1 ht];rfl
theorem K7y {a:Accident} (hf:∀ n∈b3g a.Machine,n.size<=maxLen) (hn:a.Records.length<=10) (he:s88 a≠0):K5r a=some ([],s88 a):=by
 unfold K5r;rw [u6k hf hn,bS9,if_pos (by simpa using he)]
theorem K85 {a:Accident} (ha:OkA a) (h2:a.Machine.Inputs.length<=8):K58 a=some (l10 a.Machine.Inputs.length (tA a)):=by
 have hT:=s9b ha;have ht:=ha.t;have h40:tA a<=40:=by omega
 have hrow:∀ (i v:Nat) (l:List Theory),l.length<=10000->b0w (K6a a i v) (l,0)=some (l++(List.range (tA a)).map fun (t:Nat)=>⟨i,v,t⟩):=fun i v l hl=>by
  refine b4h (tA a) (fun (s:List Theory) k=>(s,k)) (fun k=>l++(List.range k).map fun (t:Nat)=>⟨i,v,t⟩) _ (by simp) (fun k hk=>?_) ?_
  ·unfold K6a;have hc:(k:Int)<a.Ticks:=by omega
   simp only [hc,decide_true,if_true];rw [b9k (by simp; omega),bS9,b2r hk (by simp only [maxLen]; omega)];simp [List.range_succ]
  ·unfold K6a;have hc:¬ ((tA a:Nat):Int)<a.Ticks:=by omega
   simp only [hc,decide_false,fT9,if_false]
 have htwo:∀ (i:Nat) (l:List Theory),l.length<=9000->b0w (K6b a i) (l,0)=some (l++(List.range 2).flatMap fun (v:Nat)=>(List.range (tA a)).map fun (t:Nat)=>⟨i,v,t⟩):=fun i l hl=>by
  refine b4h 2 (fun (s:List Theory) k=>(s,k)) (fun k=>l++(List.range k).flatMap fun (v:Nat)=>(List.range (tA a)).map fun (t:Nat)=>⟨i,v,t⟩) _ (by simp) (fun k hk=>?_) ?_
  ·unfold K6b K6i
   have hle:((List.range k).flatMap fun (v:Nat)=>(List.range (tA a)).map fun (t:Nat)=>Theory.mk i v t).length<=40:=by
    have : k=0\/k=1:=by omega
    rcases this with rfl|rfl
    ·simp
    ·simp [List.range_succ]; omega
   have hc:(k:Int)<2:=by omega
   simp only [hc,decide_true,if_true];rw [hrow i k _ (by rw [List.length_append]; omega),bS9,b2r hk (by decide)];simp only [List.range_succ (n:=k),List.flatMap_append,List.flatMap_cons,List.flatMap_nil,List.append_nil,List.append_assoc]
  ·unfold K6b;have hc:¬ ((2:Nat):Int)<2:=by omega
   simp only [hc,decide_false,fT9,if_false]
 have stepT:∀ k:Nat,k<a.Machine.Inputs.length->K5v a (l10 k (tA a),(k:Int))=some (.nx (l10 (k+1) (tA a),(k:Int)+1)):=fun k hk=>by
  unfold K5v K6j
  have hle:(l10 k (tA a)).length<=9000:=by
   rw [K6q];have:k * (2 * tA a)<=8 * (2 * 40):=Nat.mul_le_mul (by omega) (by omega);omega
  simp only [Int.ofNat_lt,hk,decide_true,if_true];rw [htwo k _ hle,bS9,b2r hk (by simp only [maxLen]; omega)];simp only [l10,List.range_succ (n:=k),List.flatMap_append,List.flatMap_cons,List.flatMap_nil,List.append_nil,List.cons_append]
 have hloop:b0w (K5v a) ([(Theory.mk (-1) 0 0)],0)=some (l10 a.Machine.Inputs.length (tA a)):=by
  refine b4h (f:=K5v a) a.Machine.Inputs.length (fun (s:List Theory) k=>(s,k)) (fun k=>l10 k (tA a)) (l10 a.Machine.Inputs.length (tA a)) rfl (fun k hk=>?_) ?_
  ·exact stepT k hk
  ·unfold K5v;simp only [Int.lt_irrefl,decide_false,fT9,if_false]
 unfold K58;rw [hloop]; rfl
theorem K70 {a:Accident} (hf:∀ n∈b3g a.Machine,n.size<=maxLen) (hs:Small a):K5t a=some (K66 a,0):=by
 have hi:=hs.i;have ha:=hs.ok;unfold K5t;rw [u4j hf (by have:=ha.n; omega),bS9,u1v.2 ha,if_neg (by simp),K85 ha (by omega),bS9];have h6:=tA6 hs;generalize hL:l10 a.Machine.Inputs.length (tA a)=L
 have hLl:L.length<=100:=by
  rw [<- hL,K6q];have:a.Machine.Inputs.length * (2 * tA a)<=2 * (2 * 6):=Nat.mul_le_mul (by omega) (by omega);omega
 have hloop:b0w (K5z a L) ([],0)=some (L.filter (psb a)):=by
  refine b4h (f:=K5z a L) L.length (fun (s:List Theory) k=>(s,k)) (fun k=>(L.take k).filter (psb a)) (L.filter (psb a)) (by simp) (fun k hk=>?_) ?_
  case refine_2 =>
   unfold K5z;simp only [Int.lt_irrefl,decide_false,fT9,if_false,List.take_length]
  obtain ⟨x,hx⟩:=b3b hk;have hth:OkT a x:=(K7a ha).1 (by rw [hL]; exact mG9 hx);obtain ⟨b,h1,h2⟩:=u88 hs hth;have eb:b=psb a x:=by rw [Bool.eq_iff_iff,h2,K6z]
  subst eb;obtain ⟨y,hy,hb⟩:=bE9.1 h1;unfold K5z K57;have hle:((L.take k).filter (psb a)).length<=100:=Nat.le_trans (List.length_filter_le _ _) (by rw [List.length_take]; omega);have et:L.take (k+1)=L.take k++[x]:=by rw [List.take_add_one,hx]; rfl
  simp only [Int.ofNat_lt,hk,decide_true,if_true,b1h hx,bS9,hy,hb];rw [et,List.filter_append,b2r hk (by simp only [maxLen]; omega)]
  cases hp:psb a x with
  | true =>
   rw [if_pos rfl,b9k (by simp only [List.length_cons,List.length_nil]; omega),bS9,List.filter_cons_of_pos hp,List.filter_nil]
  | false=>rw [if_neg (by simp),List.filter_cons_of_neg (by simp [hp]),List.filter_nil,List.append_nil]
 rw [hloop];unfold K6h K66; rw [hL]; rfl
theorem K72 {a:Accident} (hf:∀ n∈b3g a.Machine,n.size<=maxLen) (hn:a.Records.length<=10) (he:s88 a≠0):K5t a=some ([],s88 a):=by
 unfold K5t;rw [u4j hf hn,bS9,if_pos (by simpa using he)]
theorem K8z {l:List Theory} (h:l.length<=maxLen):K55 l l=some true:=by
 unfold K55;rw [if_neg (by simp)]
 have : b0w (K5y l l) 0=some (.inl ()):=by
  refine b4h (f:=K5y l l) l.length (fun (_:Unit) k=>k) (fun _=>()) (.inl ()) (s0:=()) rfl (fun k hk=>?_) ?_
  ·obtain ⟨x,hx⟩:=b3b hk;unfold K5y;simp only [Int.ofNat_lt,hk,decide_true,if_true,b1h hx,bS9,Bool.and_self,Bool.not_true,fT9,if_false,b2r hk h]
  ·unfold K5y;simp only [Int.lt_irrefl,decide_false,fT9,if_false]
 rw [this]; rfl
section
variable [Bd]
theorem K84 (hB:Bd.B<=1048576) (a:Accident) (hm:s9d a):K53 a=some true:=by
 have hf:=u9q hm;unfold K53;rcases u6h hf with h|⟨hn,h,hs⟩
 ·rw [h]; rfl
 rw [h,bS9,if_neg (by simp),u6e (tda hB hm) hn,bS9]
 have key:∃ r,K5r a=some r/\K5t a=some r/\r.1.length<=maxLen:=by
  by_cases he:s88 a=0
  ·have ha:=u1v.1 he
   have hs':Small a:=by
    rcases hs with h|h
    ·exact absurd he h
    ·exact h
   refine ⟨_,K7z hf ha,K70 hf hs',?_⟩;have h6:=tA6 hs';have hi:=hs'.i;refine Nat.le_trans (List.length_filter_le _ _) ?_;rw [K6q];have:a.Machine.Inputs.length * (2 * tA a)<=2 * (2 * 6):=Nat.mul_le_mul (by omega) (by omega);simp only [maxLen]; omega
  ·exact ⟨_,K7y hf hn he,K72 hf hn he,by simp⟩
 obtain ⟨r,h1,h2,h3⟩:=key;rw [h1,h2,bS9,bS9,K8z h3,bS9];simp [u10]
end
end
end Go.Nw.AM
