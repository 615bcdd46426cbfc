/- Plain laws on the models. -/
import Derived.Test.YtinmifhfkkjccaaDoorYM
import Derived.Test.YtinmifhfkkjccaaDoorNwTypes
import Derived.Test.YtinmifhfkkjccaaDoorP2
import Derived.Test.YtinmifhfkkjccaaDoorNwLast
import Derived.Test.YtinmifhfkkjccaaDoorNwPlain
import Derived.Test.YtinmifhfkkjccaaDoorNwBfs
import Derived.KernelRfl
set_option linter.all false
namespace Go.Nw.YM
variable [Bd]
def L4g (x:Int × Int × Int):Prop:=b5k x.1/\b5k x.2.1/\b5k x.2.2
theorem M2t {r:List AV} (h:MtL [.i .i64,.i .i64,.i .i64] r):∃ x:Int × Int × Int,r=b70 x/\L4g x:=by
 obtain ⟨a0,r0,rfl,h0,g0⟩:=b3e h;obtain ⟨a1,r1,rfl,h1,g1⟩:=b3e g0;obtain ⟨a2,r2,rfl,h2,g2⟩:=b3e g1;obtain ⟨v0,rfl,k0⟩:=b6n h0;obtain ⟨v1,rfl,k1⟩:=b6n h1;obtain ⟨v2,rfl,k2⟩:=b6n h2;exact ⟨(v0,v1,v2),by rw [b6o g2]; rfl,⟨k0,k1,k2⟩⟩
theorem M2e {a:AV} (h:Mt (.sl [.i .i64,.i .i64,.i .i64]) a):∃ l:List (Int × Int × Int),a = .fs 3 (l.map b70)/\OkL L4g l:=by
 obtain ⟨l,rfl,h1,h2⟩:=b8q b70 L4g h fun r hr=>M2t hr;exact ⟨l,rfl,h1,h2⟩
def L55 (x:Shaft):Prop:=L4g x.Size/\OkL L4g x.Walls
def M0u (x:Shaft):List AV:=[I x.Size.1,I x.Size.2.1,I x.Size.2.2,.fs 3 (List.map b70 x.Walls)]
theorem M2v {r:List AV} (h:MtL [.i .i64,.i .i64,.i .i64,.sl [.i .i64,.i .i64,.i .i64]] r):∃ x:Shaft,r=M0u x/\L55 x:=by
 obtain ⟨a0,r0,rfl,h0,g0⟩:=b3e h;obtain ⟨a1,r1,rfl,h1,g1⟩:=b3e g0;obtain ⟨a2,r2,rfl,h2,g2⟩:=b3e g1;obtain ⟨a3,r3,rfl,h3,g3⟩:=b3e g2;obtain ⟨v0,rfl,k0⟩:=b6n h0;obtain ⟨v1,rfl,k1⟩:=b6n h1;obtain ⟨v2,rfl,k2⟩:=b6n h2;obtain ⟨v3,rfl,k3⟩:=M2e h3;exact ⟨⟨(v0,v1,v2),v3⟩,by rw [b6o g3]; rfl,⟨⟨k0,k1,k2⟩,k3⟩⟩
abbrev L7v:List Sh:=[.i .i64,.i .i64,.i .i64,.sl [.i .i64,.i .i64,.i .i64]]
theorem M2z {a:AV} (h:MtA (.agg L7v) a):∃ x:Shaft,a = .agg [I x.Size.1,I x.Size.2.1,I x.Size.2.2,.fs 3 (List.map b70 x.Walls)]/\L55 x:=by
 obtain ⟨r,rfl,hr⟩:=g1y h;obtain ⟨x,rfl,hx⟩:=M2v hr;exact ⟨x,rfl,hx⟩
def L5e (x:Pose):Prop:=L4g x.At/\b5k x.Turn
theorem M2u {r:List AV} (h:MtL [.i .i64,.i .i64,.i .i64,.i .i64] r):∃ x:Pose,r=r61 x/\L5e x:=by
 obtain ⟨a0,r0,rfl,h0,g0⟩:=b3e h;obtain ⟨a1,r1,rfl,h1,g1⟩:=b3e g0;obtain ⟨a2,r2,rfl,h2,g2⟩:=b3e g1;obtain ⟨a3,r3,rfl,h3,g3⟩:=b3e g2;obtain ⟨v0,rfl,k0⟩:=b6n h0;obtain ⟨v1,rfl,k1⟩:=b6n h1;obtain ⟨v2,rfl,k2⟩:=b6n h2;obtain ⟨v3,rfl,k3⟩:=b6n h3;exact ⟨⟨(v0,v1,v2),v3⟩,by rw [b6o g3]; rfl,⟨⟨k0,k1,k2⟩,k3⟩⟩
def L56 (x:l09_Crate):Prop:=L4g x.Edges/\L5e x.Pose/\b5k x.Move
def M0x (x:l09_Crate):List AV:=[I x.Edges.1,I x.Edges.2.1,I x.Edges.2.2,I x.Pose.At.1,I x.Pose.At.2.1,I x.Pose.At.2.2,I x.Pose.Turn,I x.Move]
theorem M2w {r:List AV} (h:MtL [.i .i64,.i .i64,.i .i64,.i .i64,.i .i64,.i .i64,.i .i64,.i .i64] r):∃ x:l09_Crate,r=M0x x/\L56 x:=by
 obtain ⟨a0,r0,rfl,h0,g0⟩:=b3e h;obtain ⟨a1,r1,rfl,h1,g1⟩:=b3e g0;obtain ⟨a2,r2,rfl,h2,g2⟩:=b3e g1;obtain ⟨a3,r3,rfl,h3,g3⟩:=b3e g2;obtain ⟨a4,r4,rfl,h4,g4⟩:=b3e g3;obtain ⟨a5,r5,rfl,h5,g5⟩:=b3e g4;obtain ⟨a6,r6,rfl,h6,g6⟩:=b3e g5;obtain ⟨a7,r7,rfl,h7,g7⟩:=b3e g6;obtain ⟨v0,rfl,k0⟩:=b6n h0;obtain ⟨v1,rfl,k1⟩:=b6n h1;obtain ⟨v2,rfl,k2⟩:=b6n h2;obtain ⟨v3,rfl,k3⟩:=b6n h3;obtain ⟨v4,rfl,k4⟩:=b6n h4;obtain ⟨v5,rfl,k5⟩:=b6n h5;obtain ⟨v6,rfl,k6⟩:=b6n h6;obtain ⟨v7,rfl,k7⟩:=b6n h7;exact ⟨⟨(v0,v1,v2),⟨(v3,v4,v5),v6⟩,v7⟩,by rw [b6o g7]; rfl,⟨⟨k0,k1,k2⟩,⟨⟨k3,k4,k5⟩,k6⟩,k7⟩⟩
abbrev L7z:List Sh:=[.i .i64,.i .i64,.i .i64,.i .i64,.i .i64,.i .i64,.i .i64,.i .i64]
theorem M20 {a:AV} (h:MtA (.agg L7z) a):∃ x:l09_Crate,a = .agg [I x.Edges.1,I x.Edges.2.1,I x.Edges.2.2,I x.Pose.At.1,I x.Pose.At.2.1,I x.Pose.At.2.2,I x.Pose.Turn,I x.Move]/\L56 x:=by
 obtain ⟨r,rfl,hr⟩:=g1y h;obtain ⟨x,rfl,hx⟩:=M2w hr;exact ⟨x,rfl,hx⟩
abbrev L7u:List Sh:=[.i .i64,.i .i64,.i .i64,.i .i64]
theorem M2y {a:AV} (h:MtA (.agg L7u) a):∃ x:Pose,a = .agg [I x.At.1,I x.At.2.1,I x.At.2.2,I x.Turn]/\L5e x:=by
 obtain ⟨r,rfl,hr⟩:=g1y h;obtain ⟨x,rfl,hx⟩:=M2u hr;exact ⟨x,rfl,hx⟩
end Go.Nw.YM
namespace Go.Nw.YM
theorem b4j {α β:Type} {f:Int->Option (Out Int β)} {l:List α} {p:Nat->α->Prop} {e u:β} (hl:l.length<=maxLen)
  (h : ∀ (k:Nat) x,l[k]?=some x->∃ b:Bool,f k=(if b=true then some (.br e) else some (.nx (wr ((k:Int)+1))))/\(b=true ↔ p k x)) (fin:f (l.length:Int)=some (.br u)) :
  ((∀ k x,l[k]?=some x->¬ p k x)/\b0w f 0=some u)\/((∃ k x,l[k]?=some x/\p k x)/\b0w f 0=some e):=by
 refine c3v l p e u (fun k x hx hb=>?_) (fun k x hx hb=>?_) fin
 ·obtain ⟨b,h1,h2⟩:=h k x hx;rw [h1,if_pos (h2.2 hb)]
 ·obtain ⟨b,h1,h2⟩:=h k x hx;rw [h1,if_neg (fun hh=>hb (h2.1 hh)),b2r (b1k hx) hl]
def c0l (b:Int):Prop:=97<=b/\b<=122
def c0m (s:ByteArray):Prop:=s ∉ wl_0/\(∀ b∈b3q s,c0l b)/\0<s.size
def c3w (s:ByteArray):Prop:=s.size<=8/\c0m s
theorem b1d {α:Type} {l:List α} {x:α}:x∈l ↔ ∃ k:Nat,l[k]?=some x:=List.mem_iff_getElem?
theorem g3b (s:ByteArray) (h:s.size<=maxLen):(b3q s).length<=maxLen:=by rw [d42]; exact h
theorem g5s (s:ByteArray):b84 s=true ↔ s∈wl_0:=by
 have hw:wl_0=[ByteArray.mk #[97,110,121],ByteArray.mk #[116,111],ByteArray.mk #[122,101,114,111],ByteArray.mk #[109,111,114,101],ByteArray.mk #[108,101,115,115],ByteArray.mk #[105,102],ByteArray.mk #[121,101,115],ByteArray.mk #[110,111]]:=rfl;rw [hw];unfold b84 b5w;generalize ByteArray.mk #[97,110,121]=a0;generalize ByteArray.mk #[116,111]=a1;generalize ByteArray.mk #[122,101,114,111]=a2;generalize ByteArray.mk #[109,111,114,101]=a3;generalize ByteArray.mk #[108,101,115,115]=a4;generalize ByteArray.mk #[105,102]=a5;generalize ByteArray.mk #[121,101,115]=a6;generalize ByteArray.mk #[110,111]=a7;simp only [List.mem_cons,List.not_mem_nil,or_false];by_cases h0:s=a0
 ·subst h0;simp only [decide_true,decide_false,if_true,if_false,fT9,true_or,or_true]
 by_cases h1:s=a1
 ·subst h1;simp only [h0,decide_true,decide_false,if_true,if_false,fT9,true_or,or_true]
 by_cases h2:s=a2
 ·subst h2;simp only [h0,h1,decide_true,decide_false,if_true,if_false,fT9,true_or,or_true]
 by_cases h3:s=a3
 ·subst h3;simp only [h0,h1,h2,decide_true,decide_false,if_true,if_false,fT9,true_or,or_true]
 by_cases h4:s=a4
 ·subst h4;simp only [h0,h1,h2,h3,decide_true,decide_false,if_true,if_false,fT9,true_or,or_true]
 by_cases h5:s=a5
 ·subst h5;simp only [h0,h1,h2,h3,h4,decide_true,decide_false,if_true,if_false,fT9,true_or,or_true]
 by_cases h6:s=a6
 ·subst h6;simp only [h0,h1,h2,h3,h4,h5,decide_true,decide_false,if_true,if_false,fT9,true_or,or_true]
 simp only [h0,h1,h2,h3,h4,h5,h6,decide_false,if_false,fT9,false_or,ite_self,decide_eq_true_eq];by_cases h7:s=a7 <;> simp [h7]
theorem j0o (s:ByteArray):s=ByteArray.mk #[] ↔ s.size=0:=by
 constructor
 ·rintro rfl; rfl
 ·intro h
  cases s with|mk d =>
  have : d.size=0:=h;rw [Array.size_eq_zero_iff.1 this]
theorem g5r (s:ByteArray) (hs:s.size<=maxLen):∃ b,r1j s=some b/\(b=true ↔ (∀ b∈b3q s,c0l b)/\0<s.size):=by
 unfold r1j
 rcases b4j (f:=c42 s) (l:=b3q s) (p:=fun _ x=>¬ c0l x) (e:=.inr false) (u:=.inl ()) (g3b s hs) (fun k x hx=>by
   refine ⟨decide (x<97) || decide (122<x),?_,by simp [c0l]; omega⟩;have:=b1k hx;unfold c42
   simp only [b1h hx,bS9,Int.ofNat_lt,this,decide_true,if_true]) (by unfold c42; simp only [Int.lt_irrefl,decide_false,fT9,if_false]) with ⟨h3,h4⟩|⟨⟨k,x,h3,h4⟩,h5⟩
 ·rw [h4];refine ⟨_,rfl,?_⟩;simp only [Bool.not_eq_true',decide_eq_false_iff_not,j0o];constructor
  ·exact fun h=>⟨fun b hb=>by
    obtain ⟨k,hk⟩:=b1d.1 hb
    exact Classical.not_not.1 (h3 k b hk),by omega⟩
  ·exact fun h=>by have:=h.2; omega
 ·rw [h5];exact ⟨_,rfl,by simp; exact fun h=>absurd (h x (b1d.2 ⟨k,h3⟩)) h4⟩
theorem b9l {α β:Type} {f:(List β × Int)->Option (Out (List β × Int) (List β))} (l:List α) (g:α->β) (l0:List β) (b:Nat) (hb1:1<=b) (hb:(l0.length+l.length) * b<=2 ^ 40)
  (step : ∀ (k:Nat) x acc,l[k]?=some x->f (acc,(k:Int))=(ap b acc [g x]).bind fun r=>some (.nx (r,wr ((k:Int)+1)))) (fin:∀ acc,f (acc,(l.length:Int))=some (.br acc)):b0w f (l0,0)=some (l0++l.map g):=by
 have hn:l0.length+l.length<=2 ^ 40:=Nat.le_trans (Nat.le_mul_of_pos_right _ hb1) hb;refine b4h l.length (fun acc k=>(acc,k)) (fun k=>l0++(l.take k).map g) _ vi9 (fun k hk=>?_) ?_
 ·obtain ⟨x,hx⟩:=b3b hk;rw [step k x _ hx,b9k,bS9,b2r hk (by simp only [maxLen]; omega)]
  ·have : (l.take (k+1)).map g=(l.take k).map g++[g x]:=by rw [List.take_add_one,hx]; simp
   rw [this,List.append_assoc]
  ·refine Nat.le_trans (Nat.mul_le_mul_right b ?_) hb;simp only [List.length_append,List.length_map,List.length_take,List.length_cons,List.length_nil];omega
 ·rw [fin,List.take_length]
def b3g (m:Machine):List ByteArray:=((m.Inputs++m.Outputs)++m.Counters.map (·.Name))++m.States.map (·.Name)
structure SizesOk (m:Machine):Prop where
 i : m.Inputs.length<=4
 o : m.Outputs.length<=6
 c : m.Counters.length<=2
 s : 1<=m.States.length/\m.States.length<=12
 r : m.Rules.length<=40
theorem j8p {m:Machine} (h:SizesOk m):c45 m=some (b3g m):=by
 have := h.i; have:=h.o; have:=h.c; have:=h.s
 unfold c45;split
 ·unfold c88 c9b c9c c9i
  rw [if_pos ⟨by simp; omega,by simp,by simp; omega⟩,bS9,
   b9l m.Counters (·.Name) _ 16 vg9 (by simp; omega) (fun k x acc hx=>by
    have := b1k hx;unfold c9a
    simp only [b1h hx,bS9,Int.ofNat_lt,this,decide_true,if_true]) (fun acc=>by unfold c9a; simp only [Int.lt_irrefl,decide_false,fT9,if_false]),bS9,
   b9l m.States (·.Name) _ 16 vg9 (by simp; omega) (fun k x acc hx=>by
    have := b1k hx;unfold c89
    simp only [b1h hx,bS9,Int.ofNat_lt,this,decide_true,if_true]) (fun acc=>by unfold c89; simp only [Int.lt_irrefl,decide_false,fT9,if_false]),bS9]
  simp [b3g]
 ·have h1:m.Inputs=[]:=List.eq_nil_of_length_eq_zero vg9
  have h2:m.Outputs=[]:=List.eq_nil_of_length_eq_zero vg9;unfold c9d c9g c9h c9j
  rw [if_pos ⟨by simp [h1,h2],by simp⟩,bS9,
   b9l m.Counters (·.Name) _ 16 vg9 (by simp; omega) (fun k x acc hx=>by
    have := b1k hx;unfold c9f
    simp only [b1h hx,bS9,Int.ofNat_lt,this,decide_true,if_true]) (fun acc=>by unfold c9f; simp only [Int.lt_irrefl,decide_false,fT9,if_false]),bS9,
   b9l m.States (·.Name) _ 16 vg9 (by simp; omega) (fun k x acc hx=>by
    have := b1k hx;unfold c9e
    simp only [b1h hx,bS9,Int.ofNat_lt,this,decide_true,if_true]) (fun acc=>by unfold c9e; simp only [Int.lt_irrefl,decide_false,fT9,if_false]),bS9]
  simp [b3g,h1,h2]
def In (n:Int) (k:Nat):Prop:=0<=n/\n<(k:Int)
def b5a (m:Machine) (inside:Bool) (l:Literal):Prop :=
 (l.Kind = 1/\In l.Number m.Inputs.length/\l.Value=0)\/(l.Kind=2/\∃ (n:Nat) (c:Counter),l.Number=n/\m.Counters[n]?=some c/\0<=l.Value/\l.Value<=c.Max) \/
 (l.Kind = 3/\inside=true/\In l.Number m.States.length/\l.Value=0)\/(l.Kind=4/\In l.Number m.Outputs.length/\l.Value=0)
def b2s (m:Machine) (inside:Bool) (c:List (List Literal)):Prop:=c.length<=6/\∀ t∈c,t.length<=6/\∀ l∈t,b5a m inside l
theorem d2l {α:Type} {l:List α} {n:Int} (h:In n l.length):∃ (k:Nat) (x:α),n=k/\l[k]?=some x/\get l n=some x:=by
 obtain ⟨h0,h1⟩:=h;obtain ⟨k,rfl⟩:=Int.eq_ofNat_of_zero_le h0;obtain ⟨x,hx⟩:=b3b (l:=l) (k:=k) vg9;exact ⟨k,x,rfl,hx,b1h hx⟩
theorem c2v {n:Int} {k:Nat} (hk:k<=maxLen):(decide (0<=n) && decide (n<=wr ((k:Int) - 1)))=true ↔ In n k:=by
 rw [c1n hk];simp only [Bool.and_eq_true,decide_eq_true_eq,In];constructor <;> exact fun h=>⟨by omega,by omega⟩
theorem b1o {n:Nat} (h:n<=1000):n<=maxLen:=by simp only [maxLen]; omega
theorem g1a {m:Machine} (hs:SizesOk m) {l:Literal} {inside:Bool} {β:Type} {g:Bool->Option β} :
  ∃ b:Bool,(if decide (l.Kind=1) then g ((b2b l.Number 0 (wr ((List.length m.Inputs:Int) - 1))) && (decide (l.Value=0)))
   else if decide (l.Kind=2) then (if (b2b l.Number 0 (wr ((List.length m.Counters:Int) - 1))) then (get m.Counters l.Number).bind fun x30=>some (b2b l.Value 0 x30.Max) else some false).bind fun c31=>g c31
   else if decide (l.Kind=3) then g ((inside && (b2b l.Number 0 (wr ((List.length m.States:Int) - 1)))) && (decide (l.Value=0)))
   else if decide (l.Kind=4) then g ((b2b l.Number 0 (wr ((List.length m.Outputs:Int) - 1))) && (decide (l.Value=0)))
   else g false)=g b/\(b=true ↔ b5a m inside l):=by
 have hi:=b1o (Nat.le_trans hs.i vg9); have ho:=b1o (Nat.le_trans hs.o vg9); have hc:=b1o (Nat.le_trans hs.c vg9); have hst:=b1o (Nat.le_trans hs.s.2 vg9)
 unfold b2b b5a;by_cases h1:l.Kind=1
 ·refine ⟨_,by rw [if_pos (by simpa using h1)],?_⟩;rw [Bool.and_eq_true,c2v hi];simp [h1]
 by_cases h2:l.Kind=2
 ·rw [if_neg (by simpa using h1),if_pos (by simpa using h2)];by_cases hin:In l.Number m.Counters.length
  ·obtain ⟨k,c,hk,hx,hg⟩:=d2l hin;rw [if_pos ((c2v hc).2 hin),hg];refine ⟨_,rfl,?_⟩;simp only [h2,Int.reduceEq,false_and,true_and,false_or,or_false,Bool.and_eq_true,decide_eq_true_eq];constructor
   ·exact fun h=>⟨k,c,hk,hx,h⟩
   ·rintro ⟨n,c',hn,hx',h⟩;have:n=k:=by omega
    subst this;rw [hx] at hx'; cases hx'; exact h
  ·rw [if_neg (fun h=>hin ((c2v hc).1 h))];refine ⟨_,rfl,?_⟩;simp only [h2,Int.reduceEq,false_and,true_and,false_or,or_false,fT9,false_iff,not_exists];rintro n c ⟨hn,hx,_⟩;exact hin ⟨by omega,by have:=b1k hx; omega⟩
 by_cases h3:l.Kind=3
 ·refine ⟨_,by rw [if_neg (by simpa using h1),if_neg (by simpa using h2),if_pos (by simpa using h3)],?_⟩;rw [Bool.and_eq_true,Bool.and_eq_true,c2v hst];simp [h3,and_assoc]
 by_cases h4:l.Kind=4
 ·refine ⟨_,by rw [if_neg (by simpa using h1),if_neg (by simpa using h2),if_neg (by simpa using h3),if_pos (by simpa using h4)],?_⟩;rw [Bool.and_eq_true,c2v ho];simp [h4]
 ·refine ⟨false,by rw [if_neg (by simpa using h1),if_neg (by simpa using h2),if_neg (by simpa using h3),if_neg (by simpa using h4)],?_⟩;simp [h1,h2,h3,h4]
theorem g57 {m:Machine} (hs:SizesOk m) (l:Literal):∃ b,c43 m l=some b/\(b=true ↔ b5a m true l):=by
 obtain ⟨b,h1,h2⟩:=g1a hs (l:=l) (inside:=true) (g:=fun b=>some b);refine ⟨b,?_,h2⟩;rw [<- h1];unfold c43 b2q b2b;simp only [Bool.true_and]
theorem d5p {m:Machine} (hs:SizesOk m) (c:List (List Literal)):∃ b,c1h m c=some b/\(b=true ↔ b2s m true c):=by
 unfold c1h;by_cases h6:c.length<=6
 case neg=>exact ⟨false,by rw [if_pos (by simp; omega)],by simp [b2s]; intro h; omega⟩
 rw [if_neg (by simp; omega)]
 rcases b4j (f:=c4u m c) (l:=c) (p:=fun _ t=>¬ (t.length<=6/\∀ l∈t,b5a m true l)) (e:=.inr false) (u:=.inl ()) (b1o vg9) (fun k t ht=>by
   have hk:=b1k ht;unfold c4u;simp only [b1h ht,bS9,Int.ofNat_lt,hk,decide_true,if_true];by_cases hl:t.length<=6
   ·rw [if_neg (by simp; omega)]
    obtain ⟨b,h1,h2⟩:=G6l (g:=b7t t (fun z14=>b82 z14 m)) (s:=t) (f:=fun z14=>b82 z14 m) (p:=fun l=>¬ b5a m true l) rfl (b1o vg9) (fun x hx=>by
     obtain ⟨b,h1,h2⟩:=g57 hs x
     exact ⟨!b,by unfold b82; rw [h1]; rfl,by rw [<- h2]; simp⟩)
    rw [h1];refine ⟨b,rfl,?_⟩;rw [h2];constructor
    ·rintro ⟨x,hx,h⟩ hh; exact h (hh.2 x hx)
    ·intro h;exact Classical.byContradiction fun hn=>h ⟨hl,fun l hl'=>Classical.byContradiction fun h'=>hn ⟨l,hl',h'⟩⟩
   ·rw [if_pos (by simp; omega)]
    exact ⟨true,rfl,by simp; intro h; omega⟩) (by unfold c4u; simp only [Int.lt_irrefl,decide_false,fT9,if_false]) with ⟨h1,h2⟩|⟨⟨k,t,h1,h2⟩,h3⟩
 ·rw [h2];exact ⟨true,rfl,by simp only [true_iff]; exact ⟨h6,fun t ht=>by obtain ⟨k,hk⟩:=b1d.1 ht; exact Classical.not_not.1 (h1 k t hk)⟩⟩
 ·rw [h3];exact ⟨false,rfl,by simp only [fT9,false_iff]; exact fun h=>h2 (h.2 t (b1d.2 ⟨k,h1⟩))⟩
def b88 (l:List ByteArray) (k:Nat) (x:ByteArray):Prop:=¬ c3w x\/x∈l.take k
def c5c (l:List ByteArray):Prop:=∃ k x,l[k]?=some x/\b88 l k x
structure OkRule (m:Machine) (r:Rule):Prop where
 f : -1<=r.From/\r.From<(m.States.length:Int)
 t : In r.To m.States.length
 w : b2s m false r.When
 n : r.Sets.length<=4
 s : ∀ s∈r.Sets,(1<=s.Kind/\s.Kind<=3)/\In s.Counter m.Counters.length
structure OkM (m:Machine):Prop where
 z : SizesOk m
 n : ¬ c5c (b3g m)
 c : ∀ c∈m.Counters,1<=c.Max/\c.Max<=7
 s : ∀ s∈m.States,0<=s.Shows/\s.Shows<2 ^ m.Outputs.length
 r : ∀ r∈m.Rules,OkRule m r
theorem g12 {m:Machine} (h:SizesOk m):(b3g m).length<=24:=by
 have := h.i; have:=h.o; have:=h.c; have:=h.s
 simp [b3g]; omega
theorem b6t {n a b:Int}:b2q n a b=true ↔ a<=n/\n<=b:=by unfold b2q; simp
theorem c83 {n:Nat} (h:n<=6):shl .i64 1 (n:Int)=some (2 ^ n):=by
 rw [l5j vg9 vg9]; simp
theorem g3y {n:Nat} (h:n<=6):wr ((2:Int) ^ n - 1)=2 ^ n - 1:=by
 have h2:(2:Int) ^ n<=64:=by
  have := Nat.pow_le_pow_right (n:=2) vg9 h;have e:((2 ^ n:Nat):Int)=(2:Int) ^ n:=by simp
  omega
 have h1:(0:Int)<2 ^ n:=Int.pow_pos vg9;exact b3t vg9 vg9
theorem j8n {m:Machine} (hz:SizesOk m) (hf:∀ n∈b3g m,n.size<=maxLen):∃ b,c44 m=some b/\(b=true ↔ ¬ c5c (b3g m)):=by
 unfold c44;rw [j8p hz,bS9];have hl:=g12 hz;generalize b3g m=l at hf hl;have keys:∀ k,(((l.take k).map fun n=>(n,(1:Int))).map (·.1))=l.take k:=fun k=>by rw [List.map_map]; simp [Function.comp_def]
 have stepb:∀ (k:Nat) x,l[k]?=some x->∃ b,c1i l ((l.take k).map fun n=>(n,(1:Int)),(k:Int))=(if b=true then some (.br (.inr false)) else some (.nx ((b3w ((l.take k).map fun n=>(n,(1:Int))) x (wr ((b2w ((l.take k).map fun n=>(n,(1:Int))) x 0)+1))),(k:Int)+1)))/\(b=true ↔ b88 l k x):=fun k x hx=>by
  have hk:=b1k hx;obtain ⟨b,h1,h2⟩:=g5r x (hf x (b1d.2 ⟨k,hx⟩))
  refine ⟨_,by
   unfold c1i;simp only [b1h hx,bS9,Int.ofNat_lt,hk,decide_true,if_true,h1]
   rw [b2r hk (b1o vg9)],?_⟩
  rw [j77];by_cases hin:x∈l.take k
  ·obtain ⟨d,hd⟩:=g1n (z:=(0:Int)) (l:=(l.take k).map fun n=>(n,(1:Int))) (k:=x) (by rw [keys]; exact hin);rw [List.getElem?_map] at hd;obtain ⟨y,_,hy⟩:=mE9.1 hd;simp only [Prod.mk.injEq] at hy;rw [<- hy.2,show wr ((1:Int)+1)=2 from by decide];simp [b88,hin]
  ·rw [g1o (by rw [keys]; exact hin),show wr ((0:Int)+1)=1 from by decide];simp only [Bool.or_eq_true,Bool.not_eq_true',<- Bool.not_eq_true,h2,g5s,decide_eq_true_eq,b88,hin,or_false,c3w,c0m,Int.lt_irrefl];have e8:¬ (8:Int)<(x.size:Int) ↔ x.size<=8:=by omega
   rw [<- e8]
   exact ⟨fun h hh=>h.elim (fun h=>h.elim (fun h=>h hh.2.2) fun h=>hh.1 h) fun h=>hh.2.1 h,fun h=>by
    refine Classical.byContradiction fun hn=>h ?_;simp only [not_or,Classical.not_not] at hn
    exact ⟨hn.1.2,hn.2,hn.1.1⟩⟩
 rcases g1j (f:=c1i l) l (fun s k=>(s,k)) (fun k=>(l.take k).map fun n=>(n,(1:Int))) (b88 l) (.inr false) (.inl ()) (fun k x _ hx hb=>by
   obtain ⟨b,h1,h2⟩:=stepb k x hx
   rw [h1,if_pos (h2.2 hb)]) (fun k x _ hx hb=>by
   obtain ⟨b,h1,h2⟩:=stepb k x hx;rw [h1,if_neg (fun h=>hb (h2.1 h))];have hin:x ∉ l.take k:=fun h=>hb (.inr h);rw [g1w (by rw [keys]; exact hin),g1o (by rw [keys]; exact hin),show wr ((0:Int)+1)=1 from by decide,List.take_add_one,hx]
   simp) (by unfold c1i; simp only [Int.lt_irrefl,decide_false,fT9,if_false]) (s0:=[]) vi9 with ⟨h1,h2⟩|⟨h1,h2⟩
 ·rw [h2];exact ⟨true,rfl,by simp only [true_iff]; exact fun ⟨k,x,a,b⟩=>h1 k x a b⟩
 ·rw [h2];exact ⟨false,rfl,by simp only [fT9,false_iff,Classical.not_not]; exact h1⟩
theorem d1i {m:Machine} {c:List (List Literal)}:b2s m false c ↔ b2s m true c/\∀ t∈c,¬ ∃ l∈t,l.Kind=3:=by
 unfold b2s b5a;constructor
 ·intro h;refine ⟨⟨h.1,fun t ht=>⟨(h.2 t ht).1,fun l hl=>?_⟩⟩,fun t ht ⟨l,hl,h3⟩=>?_⟩
  ·rcases (h.2 t ht).2 l hl with h|h|h|h
   ·exact .inl h
   ·exact .inr (.inl h)
   ·simp at h
   ·exact .inr (.inr (.inr h))
  ·rcases (h.2 t ht).2 l hl with h|h|h|h
   ·omega
   ·omega
   ·simp at h
   ·omega
 ·rintro ⟨h,h3⟩;refine ⟨h.1,fun t ht=>⟨(h.2 t ht).1,fun l hl=>?_⟩⟩;rcases (h.2 t ht).2 l hl with h|h|h|h
  ·exact .inl h
  ·exact .inr (.inl h)
  ·exact absurd ⟨l,hl,h.1⟩ (h3 t ht)
  ·exact .inr (.inr (.inr h))
theorem g5l {m:Machine} (hf:∀ n∈b3g m,n.size<=maxLen):∃ e,c4v m=some e/\((e=0/\OkM m)\/(e=41/\¬ OkM m)):=by
 unfold c4v;by_cases hz:SizesOk m
 case neg =>
  refine ⟨41,?_,.inr ⟨rfl,fun h=>hz h.z⟩⟩;rw [if_pos,bS9,if_pos rfl];refine Classical.byContradiction fun hc=>hz ?_;simp only [Bool.or_eq_true,decide_eq_true_eq,Bool.not_eq_true',not_or,Bool.not_eq_false,b6t] at hc;obtain ⟨⟨⟨⟨h1,h2⟩,h3⟩,h4⟩,h5⟩:=hc;exact ⟨by omega,by omega,by omega,by omega,by omega⟩
 have hi:=hz.i; have ho:=hz.o; have hc:=hz.c; have hs:=hz.s; have hr:=hz.r
 obtain ⟨b,h1,h2⟩:=j8n hz hf
 rw [if_neg (by
  simp only [Bool.or_eq_true,decide_eq_true_eq,Bool.not_eq_true',not_or,Bool.not_eq_false,b6t]
  omega),h1,bS9,bS9]
 cases b with
 | false=>exact ⟨41,rfl,.inr ⟨rfl,fun h=>absurd (h2.2 h.n) vi9⟩⟩
 | true =>
 have hn:=h2.1 rfl;rw [if_neg vi9];clear h1 h2
 rcases b4j (f:=c4z m) (l:=m.Counters) (p:=fun _ c=>¬ (1<=c.Max/\c.Max<=7)) (e:=.inr 41) (u:=.inl ()) (b1o vg9) (fun k x hx=>by
   have hk:=b1k hx;refine ⟨!(b2q x.Max 1 7),?_,by rw [<- b6t]; simp⟩;unfold c4z
   simp only [b1h hx,bS9,Int.ofNat_lt,hk,decide_true,if_true]) (by unfold c4z; simp only [Int.lt_irrefl,decide_false,fT9,if_false]) with ⟨h1,h2⟩|⟨⟨k,x,h1,h2⟩,h3⟩
 case inr=>rw [h3]; exact ⟨41,rfl,.inr ⟨rfl,fun h=>h2 (h.c x (b1d.2 ⟨k,h1⟩))⟩⟩
 have hC:∀ c∈m.Counters,1<=c.Max/\c.Max<=7:=fun c hc=>by obtain ⟨k,hk⟩:=b1d.1 hc; exact Classical.not_not.1 (h1 k c hk)
 rw [h2,bS9];simp only;unfold p84
 rcases b4j (f:=c4w m) (l:=m.States) (p:=fun _ s=>¬ (0<=s.Shows/\s.Shows<2 ^ m.Outputs.length)) (e:=.inr 41) (u:=.inl ()) (b1o vg9) (fun k x hx=>by
   have hk:=b1k hx;refine ⟨!(b2q x.Shows 0 (2 ^ m.Outputs.length - 1)),?_,by simp only [Bool.not_eq_true',<- Bool.not_eq_true,b6t]; omega⟩;unfold c4w;simp only [b1h hx,bS9,Int.ofNat_lt,hk,decide_true,if_true]
   rw [c83 ho,bS9,g3y ho]) (by unfold c4w; simp only [Int.lt_irrefl,decide_false,fT9,if_false]) with ⟨h1,h2⟩|⟨⟨k,x,h1,h2⟩,h3⟩
 case inr=>rw [h3]; exact ⟨41,rfl,.inr ⟨rfl,fun h=>h2 (h.s x (b1d.2 ⟨k,h1⟩))⟩⟩
 have hS:∀ s∈m.States,0<=s.Shows/\s.Shows<2 ^ m.Outputs.length:=fun c hc=>by obtain ⟨k,hk⟩:=b1d.1 hc; exact Classical.not_not.1 (h1 k c hk)
 rw [h2,bS9];simp only;unfold c85;have wrs:wr ((m.States.length:Int) - 1)=(m.States.length:Int) - 1:=c1n (b1o vg9);have wrc:wr ((m.Counters.length:Int) - 1)=(m.Counters.length:Int) - 1:=c1n (b1o vg9)
 have rule:∀ (k:Nat) x,m.Rules[k]?=some x->(OkRule m x/\b83 m k=some (.nx ((k:Int)+1)))\/(¬ OkRule m x/\b83 m k=some (.br (.inr 41))):=fun k x hx=>by
  have hk:=b1k hx;unfold b83;simp only [b1h hx,bS9,Int.ofNat_lt,hk,decide_true,if_true,wrs];by_cases hft:b2q x.From (-1) ((m.States.length:Int) - 1)=true/\b2q x.To 0 ((m.States.length:Int) - 1)=true
  case neg =>
   rw [if_pos (by simp only [Bool.or_eq_true,Bool.not_eq_true',<- Bool.not_eq_true]; exact Classical.not_and_iff_not_or_not.1 hft),bS9,Bool.true_or];refine .inr ⟨fun h=>hft ?_,rfl⟩;rw [b6t,b6t];have:=h.f; have:=h.t
   unfold In at this;exact ⟨by omega,by omega⟩
  rw [if_neg (by simp only [Bool.or_eq_true,Bool.not_eq_true',<- Bool.not_eq_true]; exact fun h=>h.elim (fun h=>h hft.1) fun h=>h hft.2)];rw [b6t,b6t] at hft;obtain ⟨b,h1,h2⟩:=d5p hz x.When;rw [h1,bS9,bS9];by_cases hb:b=true/\x.Sets.length<=4
  case neg =>
   rw [if_pos (by
    simp only [Bool.or_eq_true,Bool.not_eq_true',decide_eq_true_eq];rcases Classical.not_and_iff_not_or_not.1 hb with h|h
    ·exact .inl (x0f h)
    ·exact .inr vg9)]
   exact .inr ⟨fun h=>hb ⟨h2.2 (d1i.1 h.w).1,h.n⟩,rfl⟩
  rw [if_neg (by
    simp only [Bool.or_eq_true,Bool.not_eq_true',decide_eq_true_eq,hb.1];have:=hb.2
    simp; omega)]
  have hw:=h2.1 hb.1
  rcases b4j (f:=c4x x) (l:=x.When) (p:=fun _ t=>∃ l∈t,l.Kind=3) (e:=.inr 41) (u:=.inl ()) (b1o (by have:=hw.1; omega)) (fun k t ht=>by
    have hk:=b1k ht;obtain ⟨b,h1,h2⟩:=G6l (g:=b7t t (fun z53=>some (b7s z53))) (s:=t) (f:=fun z53=>some (b7s z53)) (p:=fun l=>l.Kind=3) rfl (b1o (by have:=(hw.2 t (b1d.2 ⟨k,ht⟩)).1; omega)) (fun x hx=>⟨_,rfl,by unfold b7s; simp⟩);refine ⟨b,?_,h2⟩;unfold c4x;simp only [b1h ht,bS9,Int.ofNat_lt,hk,decide_true,if_true]
    rw [h1]; rfl) (by unfold c4x; simp only [Int.lt_irrefl,decide_false,fT9,if_false]) with ⟨h3,h4⟩|⟨⟨j,s,h3,h4⟩,h5⟩
  case inr =>
   rw [h5];exact .inr ⟨fun h=>(d1i.1 h.w).2 s (b1d.2 ⟨j,h3⟩) h4,rfl⟩
  have hw':b2s m false x.When:=d1i.2 ⟨hw,fun t ht=>by obtain ⟨k,hk⟩:=b1d.1 ht; exact h3 k t hk⟩;rw [h4];simp only [bS9];unfold c87;clear h3 h4
  rcases b4j (f:=c4y m x) (l:=x.Sets) (p:=fun _ s=>¬ ((1<=s.Kind/\s.Kind<=3)/\In s.Counter m.Counters.length)) (e:=.inr 41) (u:=.inl ()) (b1o vg9) (fun k s hs=>by
    have hk:=b1k hs;refine ⟨!(b2q s.Kind 1 3) || !(b2q s.Counter 0 ((m.Counters.length:Int) - 1)),?_,?_⟩
    ·unfold c4y;simp only [b1h hs,bS9,Int.ofNat_lt,hk,decide_true,if_true,wrc]
    ·simp only [Bool.or_eq_true,Bool.not_eq_true',<- Bool.not_eq_true,b6t,In]; omega) (by unfold c4y; simp only [Int.lt_irrefl,decide_false,fT9,if_false]) with ⟨h3,h4⟩|⟨⟨j,s,h3,h4⟩,h5⟩
  ·rw [h4];refine .inl ⟨⟨by omega,by unfold In; omega,hw',hb.2,fun s hs=>by obtain ⟨k,hk⟩:=b1d.1 hs; exact Classical.not_not.1 (h3 k s hk)⟩,?_⟩;simp only [bS9,c86]; rw [b2r hk (b1o vg9)]
  ·rw [h5];exact .inr ⟨fun h=>h4 (h.s s (b1d.2 ⟨j,h3⟩)),rfl⟩
 rcases c3v (f:=b83 m) m.Rules (fun _ r=>¬ OkRule m r) (.inr 41) (.inl ()) (fun k x hx hb=>(rule k x hx).elim (fun h=>absurd h.1 hb) fun h=>h.2) (fun k x hx hb=>(rule k x hx).elim (fun h=>h.2) fun h=>absurd h.1 hb)
   (by unfold b83; simp only [Int.lt_irrefl,decide_false,fT9,if_false]) with ⟨h1,h2⟩|⟨⟨k,x,h1,h2⟩,h3⟩
 ·rw [h2];exact ⟨0,rfl,.inl ⟨rfl,hz,hn,hC,hS,fun r hr=>by obtain ⟨k,hk⟩:=b1d.1 hr; exact Classical.not_not.1 (h1 k r hk)⟩⟩
 ·rw [h3];exact ⟨41,rfl,.inr ⟨rfl,fun h=>h2 (h.r x (b1d.2 ⟨k,h1⟩))⟩⟩
noncomputable section
def b56 (m:Machine) (i:Nat):Int:=match m.Counters[i]? with|some c=>c.Max|none=>0
structure OkP (m:Machine) (p:Place):Prop where
 s : In p.State m.States.length
 a : 0<=p.Values.1/\p.Values.1<=b56 m 0
 b : 0<=p.Values.2/\p.Values.2<=b56 m 1
def lit (m:Machine) (p:Place) (x:Int) (l:Literal):Bool:=(b77 ⟨m⟩ l p x).getD false
def b46 (m:Machine) (p:Place) (x:Int) (c:List (List Literal)):Bool:=c.any fun t=>t.all (lit m p x)
def c25 (m:Machine) (p:Place) (x:Int) (c:List (List Literal)):Bool:=c.isEmpty || b46 m p x c
theorem c74 (p:Place):Place.mk p.State (p.Values.1,p.Values.2)=p:=rfl
theorem c2x {a b n:Int} (h:In n 2):get [a,b] n=some (if n=0 then a else b):=by
 obtain ⟨h0,h1⟩:=h;have:n=0\/n=1:=by omega
 rcases this with rfl|rfl <;> rfl
theorem g09 {m:Machine} (hs:SizesOk m) {p:Place} (hp:In p.State m.States.length) {x:Int} {l:Literal} {ins:Bool} (hl:b5a m ins l) :
  b77 ⟨m⟩ l p x=some (lit m p x l):=by
 have key:∃ b,b77 ⟨m⟩ l p x=some b:=by
  have hi:=hs.i; have ho:=hs.o; have hc:=hs.c
  unfold b77 b6w;rcases hl with ⟨hk,hn,_⟩|⟨hk,n,c,hn,hx,_⟩|⟨hk,_⟩|⟨hk,hn,_⟩
  ·obtain ⟨h0,h1⟩:=hn;simp only [hk,decide_true,if_true];rw [g29 h0];exact ⟨_,rfl⟩
  ·have hlt:=b1k hx
   simp only [hk,Int.reduceEq,decide_false,fT9,if_false,decide_true,if_true];rw [c2x ⟨by omega,by omega⟩];exact ⟨_,rfl⟩
  ·simp only [hk,Int.reduceEq,decide_false,fT9,if_false,decide_true,if_true];exact ⟨_,rfl⟩
  ·obtain ⟨h0,h1⟩:=hn;obtain ⟨k,s,_,_,hg⟩:=d2l hp;simp only [hk,Int.reduceEq,decide_false,fT9,if_false,decide_true,if_true];rw [hg,bS9,g29 h0];exact ⟨_,rfl⟩
 obtain ⟨b,h1⟩:=key;have:lit m p x l=b:=by unfold lit; rw [h1]; rfl
 rw [this]; exact h1
theorem c5w {m:Machine} (hs:SizesOk m) {p:Place} (hp:In p.State m.States.length) {x:Int} {c:List (List Literal)} {ins:Bool} (hc:b2s m ins c):b6v ⟨m⟩ c p x=some (b46 m p x c):=by
 unfold b6v
 obtain ⟨b,h1,h2⟩:=G6l (g:=c9k c (fun z3=>b74 z3 ⟨m⟩ p x)) (s:=c) (f:=fun z3=>b74 z3 ⟨m⟩ p x) (p:=fun t=>t.all (lit m p x)=true) rfl (b1o (by have:=hc.1; omega)) (fun t ht=>by
  obtain ⟨b,h1,h2⟩:=G6l (g:=b7t t (fun z3=>b76 z3 ⟨m⟩ p x)) (s:=t) (f:=fun z3=>b76 z3 ⟨m⟩ p x) (p:=fun l=>lit m p x l=false) rfl (b1o (by have:=(hc.2 t ht).1; omega)) (fun l hl=>by
   refine ⟨!(lit m p x l),?_,by simp⟩;unfold b76
   rw [g09 hs hp ((hc.2 t ht).2 l hl)]; rfl)
  refine ⟨!b,by unfold b74; rw [h1]; rfl,?_⟩;rw [List.all_eq_true,Bool.not_eq_true',<- Bool.not_eq_true,h2];constructor
  ·exact fun h l hl=>by
    cases hq:lit m p x l with
    | true=>rfl
    | false=>exact absurd ⟨l,hl,hq⟩ h
  ·rintro h ⟨l,hl,hq⟩; rw [h l hl] at hq; cases hq)
 rw [h1,bS9];congr 1;rw [Bool.eq_iff_iff,h2];unfold b46;rw [List.any_eq_true]
theorem g5i {m:Machine} (hs:SizesOk m) {p:Place} (hp:In p.State m.States.length) {x:Int} {c:List (List Literal)} {ins:Bool} (hc:b2s m ins c):c1z ⟨m⟩ c p x=some (c25 m p x c):=by
 unfold c1z c25
 cases c with
 | nil=>rfl
 | cons t r =>
  rw [if_neg (by simp; omega),c5w hs hp hc]; rfl
theorem d71 {α β:Type} {f:Int->Option (Out Int β)} {l:List α} {p:α->Bool} {e:α->β} {u:β} (hl:l.length<=maxLen)
  (h : ∀ (k:Nat) x,l[k]?=some x->f k=(if p x=true then some (.br (e x)) else some (.nx (wr ((k:Int)+1))))) (fin:f (l.length:Int)=some (.br u)) :
  b0w f 0=some (match l.find? p with|some x=>e x|none=>u):=by
 refine j7v (σ:=Unit) l (fun _ k=>k) (fun r _=>match r.find? p with|some x=>e x|none=>u) (fun _ _=>True) (fun _ k x r hd hx hlt hm _=>?_) (fun _ _=>fin) (s:=()) trivial
 have hxk:l[k]?=some x:=by
  have := b8j hx; simpa using this
 rw [h k x hxk]
 cases hp:p x with
 | true=>exact .inr (by simp [List.find?,hp])
 | false=>exact .inl ⟨(),by rw [if_neg vi9,b2r (b1k hxk) hl],trivial,by simp [List.find?,hp]⟩
def b7e (m:Machine) (p:Place) (x:Int) (r:Rule):Bool:=(decide (r.From = -1) || decide (r.From=p.State)) && b46 m p x r.When
def b5v (m:Machine) (s:Set) (old:Int):Int:=if s.Kind=1 then 0 else if s.Kind=2 then mn (old+1) (b56 m s.Counter.toNat) else mx (old - 1) 0
def c60 (m:Machine) (v:Int × Int) (s:Set):Int × Int:=if s.Counter=0 then (b5v m s v.1,v.2) else (v.1,b5v m s v.2)
def nxt (m:Machine) (p:Place) (x:Int):Place:=match m.Rules.find? (b7e m p x) with
 | some r=>⟨r.To,r.Sets.foldl (c60 m) p.Values⟩
 | none=>p
def OkV (m:Machine) (v:Int × Int):Prop:=(0<=v.1/\v.1<=b56 m 0)/\(0<=v.2/\v.2<=b56 m 1)
theorem b57 {m:Machine} (hc:∀ c∈m.Counters,1<=c.Max/\c.Max<=7) (i:Nat):0<=b56 m i/\b56 m i<=7:=by
 unfold b56
 cases h:m.Counters[i]? with
 | none=>simp
 | some c=>have:=hc c (b1d.2 ⟨i,h⟩); simp only; omega
def c1s (m:Machine) (s:Set):Prop:=(1<=s.Kind/\s.Kind<=3)/\In s.Counter m.Counters.length
theorem l5e {m:Machine} (hm:OkM m) {s:Set} (hs:c1s m s) {v:Int × Int} (hv:OkV m v):OkV m (c60 m v s):=by
 obtain ⟨⟨h1,h2⟩,h3⟩:=hv;have m0:=b57 hm.c 0; have m1:=b57 hm.c 1
 have hc:=hm.z.c;obtain ⟨⟨k1,k2⟩,c0,c1⟩:=hs;unfold c60;have hcn:s.Counter=0\/s.Counter=1:=by omega
 rcases hcn with e|e
 ·rw [if_pos e];refine ⟨?_,h3⟩;unfold b5v;rw [e,g1r,g10];simp only [Int.toNat_zero];split
  ·omega
  ·split <;> omega
 ·rw [if_neg vg9];refine ⟨⟨h1,h2⟩,?_⟩;unfold b5v;rw [e,g1r,g10];simp only [show Int.toNat 1=1 from rfl];split
  ·omega
  ·split <;> omega
theorem J9i {m:Machine} (hm:OkM m):∀ (l:List Set),(∀ s∈l,c1s m s)->∀ {v:Int × Int},OkV m v->OkV m (l.foldl (c60 m) v)
 | [],_,v,hv=>hv
 | s :: l,hl,v,hv=>J9i hm l (fun x hx=>hl x (List.mem_cons_of_mem _ hx)) (l5e hm (hl s List.mem_cons_self) hv)
theorem s1f {m:Machine} (hm:OkM m) {p:Place} (hp:OkP m p) (x:Int):OkP m (nxt m p x):=by
 unfold nxt
 cases h:m.Rules.find? (b7e m p x) with
 | none=>exact hp
 | some r =>
  have hr:=hm.r r (List.mem_of_find?_eq_some h);have hv:=J9i hm r.Sets hr.s (v:=p.Values) ⟨hp.a,hp.b⟩;exact ⟨hr.t,hv.1,hv.2⟩
theorem g26 {m:Machine} (hm:OkM m) {s:Set} (hs:c1s m s) {v:Int × Int} (hv:OkV m v) (w:Int) (hw:w=b5v m s (if s.Counter=0 then v.1 else v.2)):(b1n s.Counter 0 w v.1,b1n s.Counter 1 w v.2)=c60 m v s:=by
 have hc:=hm.z.c;obtain ⟨_,c0,c1⟩:=hs;have hcn:s.Counter=0\/s.Counter=1:=by omega
 subst hw;unfold c60 b1n;rcases hcn with e|e <;> simp [e]
theorem d61 {m:Machine} {s:Set} (hs:c1s m s):∃ c,get m.Counters s.Counter=some c/\b56 m s.Counter.toNat=c.Max:=by
 obtain ⟨k,c,hk,hx,hg⟩:=d2l hs.2;refine ⟨c,hg,?_⟩;rw [hk]; unfold b56;simp [hx]
theorem l5i {m:Machine} (hm:OkM m) {s:Set} (hs:c1s m s) {p:Place} (hv:OkV m p.Values):r1b ⟨m⟩ s p=some ⟨p.State,c60 m p.Values s⟩:=by
 have hc:=hm.z.c;obtain ⟨⟨h1,h2⟩,h3,h4⟩:=hv;have m0:=b57 hm.c 0; have m1:=b57 hm.c 1
 have hin:In s.Counter 2:=by have:=hs.2; unfold In at *; omega
 have hold : -1<(if s.Counter=0 then p.Values.1 else p.Values.2)/\(if s.Counter=0 then p.Values.1 else p.Values.2)<8:=by split <;> omega
 have key:=fun w hw=>g26 hm hs (v:=p.Values) ⟨⟨h1,h2⟩,h3,h4⟩ w hw;unfold r1b;rw [c2x hin,bS9];obtain ⟨c,hg,hmx⟩:=d61 hs;obtain ⟨⟨k1,k2⟩,_⟩:=hs;have hk:s.Kind=1\/s.Kind=2\/s.Kind=3:=by omega
 rcases hk with e|e|e
 ·simp only [e,decide_true,if_true];rw [key 0 (by unfold b5v; rw [if_pos e])]
 ·simp only [e,Int.reduceEq,decide_false,fT9,if_false,decide_true,if_true];rw [hg,bS9,b3t vg9 vg9,key _ (by unfold b5v; rw [if_neg (show ¬ s.Kind=1 by omega),if_pos e,hmx])]
 ·simp only [e,Int.reduceEq,decide_false,fT9,if_false,decide_true,if_true];rw [b3t vg9 vg9,key _ (by unfold b5v; rw [if_neg (show ¬ s.Kind=1 by omega),if_neg (show ¬ s.Kind=2 by omega)])]
theorem j06 {m:Machine} {r:Rule} (hr:OkRule m r) {p:Place}:(decide (¬r.From=(-1)) && decide (¬r.From=p.State))=!(decide (r.From = -1) || decide (r.From=p.State)):=by
 by_cases h1:r.From = -1 <;> by_cases h2:r.From=p.State <;> simp [h1,h2]
theorem g5u {m:Machine} (hm:OkM m) {p:Place} (hp:OkP m p) (x:Int):r7y ⟨m⟩ p x=some (nxt m p x):=by
 have hr:=hm.z.r
 have inner:∀ r∈m.Rules,b0w (c11 ⟨m⟩ r) (p.State,p.Values.1,p.Values.2,0)=some (p.State,(r.Sets.foldl (c60 m) p.Values).1,(r.Sets.foldl (c60 m) p.Values).2):=fun r hrm=>by
  have ho:=hm.r r hrm;refine b4h r.Sets.length (fun (s:Int × Int) k=>(p.State,s.1,s.2,k)) (fun k=>(r.Sets.take k).foldl (c60 m) p.Values) _ vi9 (fun k hk=>?_) ?_
  ·obtain ⟨s,hs⟩:=b3b hk;have hv:=J9i hm (r.Sets.take k) (fun s hs=>ho.s s (List.mem_of_mem_take hs)) (v:=p.Values) ⟨hp.a,hp.b⟩;unfold c11;simp only [b1h hs,bS9,Int.ofNat_lt,hk,decide_true,if_true];rw [l5i hm (ho.s s (b1d.2 ⟨k,hs⟩)) hv,bS9,b2r hk (b1o (by have:=ho.n; omega)),List.take_add_one,hs];simp
  ·unfold c11;simp only [Int.lt_irrefl,decide_false,fT9,if_false,List.take_length]
 unfold r7y c6h
 rw [d71 (l:=m.Rules) (p:=b7e m p x) (e:=fun r=>(r.To,(r.Sets.foldl (c60 m) p.Values).1,(r.Sets.foldl (c60 m) p.Values).2)) (u:=(p.State,p.Values.1,p.Values.2)) (b1o vg9) (fun k r hrk=>by
   have hk:=b1k hrk;have hrm:=b1d.2 ⟨k,hrk⟩;unfold c6f c6i c6g;simp only [b1h hrk,bS9,Int.ofNat_lt,hk,decide_true,if_true];rw [j06 (hm.r r hrm),c74,c5w hm.z hp.s (hm.r r hrm).w];unfold b7e
   cases hfr:(decide (r.From = -1) || decide (r.From=p.State)) with
   | false=>simp
   | true =>
    cases hh:b46 m p x r.When with
    | false=>simp
    | true=>simp [inner r hrm]) (by unfold c6f; simp only [Int.lt_irrefl,decide_false,fT9,if_false])]
 unfold nxt
 cases m.Rules.find? (b7e m p x) <;> rfl
end
noncomputable section
theorem d4k:∀ (n:Nat) (l:List Nat),l.Nodup->(∀ x∈l,x<n)->l.length<=n
 | 0,l,_,h=>by
  cases l with
  | nil=>simp
  | cons a l=>exact absurd (h a List.mem_cons_self) vg9
 | n+1,l,hn,h=>by
  by_cases hm:n∈l
  ·have h1:=d4k n (l.erase n) (hn.erase n) (fun x hx=>by
    have := (hn.mem_erase_iff).1 hx;have:=h x this.2
    omega)
   rw [List.length_erase_of_mem hm] at h1;omega
  ·have := d4k n l hn (fun x hx=>by
    have := h x hx;have:x≠n:=fun e=>hm (e ▸ hx)
    omega)
   omega
theorem l1z {α β:Type} {f:α->β} {l:List α} (hn:l.Nodup) (hf:∀ a∈l,∀ b∈l,f a=f b->a=b):(l.map f).Nodup:=by
 unfold List.Nodup at *
 rw [List.pairwise_map];refine List.Pairwise.imp_of_mem ?_ hn;intro a b ha hb hne e;exact hne (hf a ha b hb e)
def zero:Place:=⟨0,(0,0)⟩
theorem o5b {m:Machine} (hm:OkM m):OkP m zero:=by
 have := hm.z.s;exact ⟨⟨by simp [zero],by simp [zero]; omega⟩,⟨Int.le_refl _,(b57 hm.c 0).1⟩,⟨Int.le_refl _,(b57 hm.c 1).1⟩⟩
theorem c0q {m:Machine} (hm:OkM m) {l:List Place} (hn:l.Nodup) (ho:∀ p∈l,OkP m p):l.length<=768:=by
 have hb:∀ p∈l,0<=p.State/\p.State<12/\0<=p.Values.1/\p.Values.1<=7/\0<=p.Values.2/\p.Values.2<=7:=fun p hp=>by
  have h:=ho p hp;have hs:=hm.z.s;have:=h.s; have:=h.a; have:=h.b; have:=b57 hm.c 0; have:=b57 hm.c 1
  unfold In at *
  omega
 have h1:=d4k 768 (l.map fun p=>(p.State * 64+p.Values.1 * 8+p.Values.2).toNat) (l1z hn fun p hp q hq e=>by
   have := hb p hp; have:=hb q hq
   obtain ⟨s,a,b⟩:=p; obtain ⟨s',a',b'⟩:=q;simp only at *
   have e1:s=s':=by omega
   have e2:a=a':=by omega
   have e3:b=b':=by omega
   subst e1; subst e2; subst e3; rfl) (fun x hx=>by
   obtain ⟨p,hp,rfl⟩:=List.mem_map.1 hx;have:=hb p hp
   omega)
 simpa using h1
abbrev S3:=List Place × List Int × List Int
def b5l (s:S3) (i x:Nat) (q:Place):S3:=if q∈s.1 then s else (s.1++[q],s.2.1++[(i:Int)],s.2.2++[(x:Int)])
section
variable (m:Machine) (c:List (List Literal)) (hd:Nat->Int)
def inn (i:Nat) (p:Place):Nat->S3->S3
 | 0,s=>s
 | x+1,s=>if c25 m p x c=true then b5l (inn i p x s) i x (nxt m p (hd x)) else inn i p x s
def b0h:Nat->S3
 | 0=>([zero],[-1],[0])
 | k+1=>match (b0h k).1[k]? with|some p=>inn m c hd k p (2 ^ m.Inputs.length) (b0h k)|none=>b0h k
end
variable {m:Machine} {c:List (List Literal)} {hd:Nat->Int}
structure Good (m:Machine) (s:S3):Prop where
 n : s.1.Nodup
 o : ∀ p∈s.1,OkP m p
 b : s.2.1.length=s.1.length
 i : s.2.2.length=s.1.length
theorem g5z {s:S3} (h:Good m s) {i x:Nat} {q:Place} (hq:OkP m q):Good m (b5l s i x q):=by
 unfold b5l;split
 ·exact h
 ·rename_i hn;refine ⟨?_,fun p hp=>?_,by simp [h.b],by simp [h.i]⟩
  ·rw [List.nodup_append];exact ⟨h.n,by simp,fun a ha b hb e=>by simp at hb; subst hb; exact hn (e ▸ ha)⟩
  ·rcases List.mem_append.1 hp with hp|hp
   ·exact h.o p hp
   ·simp at hp; subst hp; exact hq
theorem d5y (s:S3) (i x:Nat) (q:Place):s.1 <+: (b5l s i x q).1:=by
 unfold b5l; split
 ·exact List.prefix_refl _
 ·exact List.prefix_append _ _
theorem g50 (s:S3) (i x:Nat) (q:Place):q∈(b5l s i x q).1:=by
 unfold b5l; split
 ·assumption
 ·simp
theorem c0g (hm:OkM m) {i:Nat} {p:Place} (hp:OkP m p):∀ (x:Nat) {s:S3},Good m s->Good m (inn m c hd i p x s)
 | 0,s,h=>h
 | x+1,s,h=>by
  unfold inn; split
  ·exact g5z (c0g hm hp x h) (s1f hm hp _)
  ·exact c0g hm hp x h
theorem c3a {i:Nat} {p:Place}:∀ (x:Nat) {s:S3},s.1 <+: (inn m c hd i p x s).1
 | 0,s=>List.prefix_refl _
 | x+1,s=>by
  unfold inn; split
  ·exact (c3a x).trans (d5y _ _ _ _)
  ·exact c3a x
theorem d2m {i:Nat} {p:Place} {j:Nat} (ha:c25 m p j c=true):∀ (x:Nat) {s:S3},j<x->nxt m p (hd j)∈(inn m c hd i p x s).1
 | 0,s,h=>by omega
 | x+1,s,h=>by
  by_cases e:j=x
  ·subst e; unfold inn; rw [if_pos ha]; exact g50 _ _ _ _
  ·have ih:=d2m (i:=i) ha x (s:=s) vg9
   unfold inn; split
   ·exact (d5y _ _ _ _).subset ih
   ·exact ih
theorem s3t (hm:OkM m):∀ k,Good m (b0h m c hd k)
 | 0=>⟨by simp [b0h],fun p hp=>by simp [b0h] at hp; subst hp; exact o5b hm,rfl,rfl⟩
 | k+1=>by
  have ih:=s3t hm k;unfold b0h;split
  ·rename_i p hp; exact c0g hm (ih.o p (b1d.2 ⟨k,hp⟩)) _ ih
  ·exact ih
theorem c3y (k:Nat):(b0h m c hd k).1 <+: (b0h m c hd (k+1)).1:=by
 conv => rhs; unfold b0h
 split
 ·exact c3a _
 ·exact List.prefix_refl _
theorem d4g {j k:Nat} (h:j<=k):(b0h m c hd j).1 <+: (b0h m c hd k).1:=by
 induction k with
 | zero=>have:j=0:=by omega
         subst this; exact List.prefix_refl _
 | succ k ih =>
  by_cases e:j=k+1
  ·subst e; exact List.prefix_refl _
  ·exact (ih vg9).trans (c3y k)
theorem g2u (hm:OkM m):∃ K,K<=768/\(∀ k,k<K->k<(b0h m c hd k).1.length)/\(b0h m c hd K).1.length<=K:=by
 have hb:∀ k,(b0h m c hd k).1.length<=768:=fun k=>c0q hm (s3t hm k).n (s3t hm k).o
 have key:∀ d,(∃ K,K<=d/\(∀ k,k<K->k<(b0h m c hd k).1.length)/\(b0h m c hd K).1.length<=K)\/∀ k,k<=d->k<(b0h m c hd k).1.length:=by
  intro d;induction d with
  | zero =>
   by_cases h:(b0h m c hd 0).1.length<=0
   ·exact .inl ⟨0,Nat.le_refl _,fun k hk=>by omega,h⟩
   ·exact .inr fun k hk=>by have:k=0:=by omega
                            subst this; omega
  | succ d ih =>
   rcases ih with ⟨K,h1,h2⟩|h
   ·exact .inl ⟨K,by omega,h2⟩
   ·by_cases h':(b0h m c hd (d+1)).1.length<=d+1
    ·exact .inl ⟨d+1,Nat.le_refl _,fun k hk=>h k vg9,h'⟩
    ·exact .inr fun k hk=>by
      by_cases e:k=d+1
      ·subst e; omega
      ·exact h k vg9
 rcases key 768 with h|h
 ·exact h
 ·have := h 768 (Nat.le_refl _); have:=hb 768; omega
theorem c0r {α:Type} {l r:List α} (h:l <+: r) {k:Nat} {x:α} (hx:l[k]?=some x):r[k]?=some x:=by
 obtain ⟨t,rfl⟩:=h;rw [List.getElem?_append_left (b1k hx)]; exact hx
theorem p2a {m:Machine} (hs:SizesOk m):2 ^ m.Inputs.length<=16:=Nat.pow_le_pow_right (n:=2) vg9 hs.i
theorem b6d {α:Type} {b:Nat} {l m:List α} (hl:l.length<=1000) (hm:m.length<=1000) (hb:b<=1000):ap b l m=some (l++m):=b9k (by
 have : (l.length+m.length) * b<=2000 * 1000:=Nat.mul_le_mul vg9 hb
 omega)
def End (m:Machine) (c:List (List Literal)) (hd:Nat->Int) (K:Nat):Prop:=K<=768/\(∀ k,k<K->k<(b0h m c hd k).1.length)/\(b0h m c hd K).1.length<=K
end
noncomputable section
def fnd (l:List Place):List (Place × Int):=l.zipIdx.map fun p=>(p.1,(p.2:Int))
theorem d12 (l:List Place):(fnd l).map (·.1)=l:=by
 unfold fnd;rw [List.map_map];have:((fun x:Place × Int=>x.1) ∘ fun p:Place × Nat=>(p.1,(p.2:Int)))=Prod.fst:=rfl;rw [this,List.zipIdx_map_fst]
theorem j02 (l:List Place) (q:Place):fnd (l++[q])=fnd l++[(q,(l.length:Int))]:=by
 unfold fnd;rw [List.zipIdx_append];simp
theorem d2b {l:List Place} {q:Place} (h:q∈l):l[l.idxOf q]?=some q:=by
 have hlt:=List.idxOf_lt_length_iff.2 h;rw [gG9 hlt,List.getElem_idxOf]
theorem j03 {l:List Place} {q:Place} (hn:l.Nodup) (h:q∈l):b2w (fnd l) q 0=(l.idxOf q:Int):=by
 refine j76 (j:=l.idxOf q) (by rw [d12]; exact hn) ?_;unfold fnd;rw [List.getElem?_map,List.getElem?_zipIdx,d2b h];simp
theorem d74 {l:List Place} {q:Place}:b6m (fnd l) q=true ↔ q∈l:=by rw [j78,d12]
theorem j4z {l r:List Place} (h:l <+: r) {q:Place} (hq:q∈l):r.idxOf q=l.idxOf q:=by
 obtain ⟨t,rfl⟩:=h;rw [List.idxOf_append,if_pos hq]
section
variable (m:Machine) (c:List (List Literal)) (hd:Nat->Int)
def rv (P:List Place) (p:Place) (j:Nat):Int:=if c25 m p j c=true then (P.idxOf (nxt m p (hd j)):Int) else -1
def b8r (P:List Place) (k:Nat):List (List Int):=tab k fun i=>tab (2 ^ m.Inputs.length) (rv m c hd P (P.getD i zero))
end
variable {m:Machine} {c:List (List Literal)} {hd:Nat->Int}
theorem g24 {P Q:List Place} (h:P <+: Q) {p:Place} {j:Nat} (hq:c25 m p j c=true->nxt m p (hd j)∈P):rv m c hd Q p j=rv m c hd P p j:=by
 unfold rv;split
 ·rename_i ha; rw [j4z h (hq ha)]
 ·rfl
theorem j0z {α:Type} {n k:Nat} {f g:Nat->α} {z:α} (h:∀ i,i<k->f i=g i):fill n f z k=fill n g z k:=by
 unfold fill;refine c1m fun i _=>?_;split
 ·exact h i (by assumption)
 ·rfl
theorem j5z (hm:OkM m) {ins:Bool} (hc:b2s m ins c) {heard:Int->Option Int} (hh:∀ x:Nat,x<2 ^ m.Inputs.length->heard x=some (hd x)) {i:Nat} {p:Place} (hp:OkP m p) {s:S3} (hg:Good m s) :
  b0w (c1u ⟨⟨m⟩⟩ c heard i p (tab (2 ^ m.Inputs.length) fun _=>(0:Int))) (s.1,s.2.1,s.2.2,fnd s.1,tab (2 ^ m.Inputs.length) (fun _=>(0:Int)),0) =
   some ((inn m c hd i p (2 ^ m.Inputs.length) s).1,(inn m c hd i p (2 ^ m.Inputs.length) s).2.1,(inn m c hd i p (2 ^ m.Inputs.length) s).2.2,fnd (inn m c hd i p (2 ^ m.Inputs.length) s).1,tab (2 ^ m.Inputs.length) (rv m c hd (inn m c hd i p (2 ^ m.Inputs.length) s).1 p)):=by
 have hpow:=p2a hm.z
 refine b4h (2 ^ m.Inputs.length) (fun (s:S3 × List Int) k=>(s.1.1,s.1.2.1,s.1.2.2,fnd s.1.1,s.2,k)) (fun k=>(inn m c hd i p k s,fill (2 ^ m.Inputs.length) (rv m c hd (inn m c hd i p k s).1 p) 0 k)) _ (s0:=(s,tab (2 ^ m.Inputs.length) fun _=>(0:Int))) (by
   rw [show inn m c hd i p 0 s=s from rfl,<- d1w,p6y]) (fun k hk=>?_) ?_
 ·have hg':=c0g (c:=c) (hd:=hd) (i:=i) hm hp k hg
  have hlen:=c0q hm hg'.n hg'.o;have hb:=hg'.b; have hin:=hg'.i
  have hmem:∀ j,j<k->c25 m p j c=true->nxt m p (hd j)∈(inn m c hd i p k s).1:=fun j hj ha=>d2m ha k hj
  conv => rhs; unfold inn
  unfold c1u c1w c1v;simp only [b3y,Int.ofNat_lt,hk,decide_true,if_true,d15 hk,bS9,c74,Int.toNat_natCast];rw [g5i hm.z hp.s hc,bS9,b2r hk (b1o vg9)]
  have gs:∀ v:Int,get (List.set (fill (2 ^ m.Inputs.length) (rv m c hd (inn m c hd i p k s).1 p) 0 k) k v) (k:Int)=some v:=fun v=>by
   refine b1h ?_;rw [List.getElem?_set,if_pos rfl,if_pos (by rw [d7z]; exact hk)]
  cases ha:c25 m p k c with
  | false =>
   simp only [Bool.not_false,if_true,fT9,if_false];rw [c2r (by unfold rv; rw [if_neg (by simp [ha])])]
  | true =>
   simp only [Bool.not_true,fT9,if_false,if_true];rw [hh k hk,bS9,g5u hm hp,bS9];unfold b5l;by_cases hq:nxt m p (hd k)∈(inn m c hd i p k s).1
   ·rw [if_pos hq,if_neg (by rw [d74.2 hq]; simp),gs,bS9,List.set_set,c2r (by unfold rv; rw [if_pos ha,j03 hg'.n hq])]
   ·have hnh:b6m (fnd (inn m c hd i p k s).1) (nxt m p (hd k))=false:=x0f fun h=>hq (d74.1 h)
    rw [if_neg hq,if_pos (by rw [hnh]; rfl),b6d vg9 vi9 vg9,bS9,b6d vg9 vi9 vg9,bS9,b6d vg9 vi9 vg9,bS9,
     gs,bS9,List.set_set,g1w (by rw [d12]; exact hq),<- j02]
    have e1:fill (2 ^ m.Inputs.length) (rv m c hd (inn m c hd i p k s).1 p) 0 k=fill (2 ^ m.Inputs.length) (rv m c hd ((inn m c hd i p k s).1++[nxt m p (hd k)]) p) 0 k :=
     j0z fun j hj=>(g24 (List.prefix_append _ _) (hmem j hj)).symm
    rw [e1,c2r (by
     unfold rv; rw [if_pos ha,List.idxOf_append,if_neg hq]
     simp)]
 ·unfold c1u;simp only [b3y,Int.lt_irrefl,decide_false,fT9,if_false,d1u (Nat.le_refl _)]
theorem closed {k i j:Nat} {p:Place} (hp:(b0h m c hd k).1[i]?=some p) (hi:i<k) (ha:c25 m p j c=true) (hj:j<2 ^ m.Inputs.length):nxt m p (hd j)∈(b0h m c hd k).1:=by
 induction k with
 | zero=>omega
 | succ k ih =>
  have hpre:=c3y (m:=m) (c:=c) (hd:=hd) k;by_cases e:i=k
  ·subst e
   conv at hp=>lhs; unfold b0h
   cases hq:(b0h m c hd i).1[i]? with
   | none =>
    simp only [hq] at hp
    cases hp
   | some q =>
    have : p=q:=by
     have h1:=c0r hpre hq
     conv at h1=>lhs; unfold b0h
     rw [h1] at hp; exact (Option.some.inj hp).symm
    subst this
    have hout:b0h m c hd (i+1)=inn m c hd i p (2 ^ m.Inputs.length) (b0h m c hd i):=by
     conv => lhs; unfold b0h
     rw [hq]
    rw [hout];exact d2m ha _ hj
  ·by_cases hlt:i<(b0h m c hd k).1.length
   ·obtain ⟨q,hq⟩:=b3b hlt;have h1:=c0r hpre hq;rw [h1] at hp;have:p=q:=(Option.some.inj hp).symm;subst this;exact hpre.subset (ih hq vg9)
   ·have hn:(b0h m c hd k).1[k]?=none:=List.getElem?_eq_none vg9
    conv at hp=>lhs; unfold b0h
    simp only [hn] at hp;exact absurd (b1k hp) hlt
theorem l0o {k:Nat} (hk:∀ j,j<=k->j<(b0h m c hd j).1.length):b8r m c hd (b0h m c hd (k+1)).1 (k+1)=b8r m c hd (b0h m c hd k).1 k++[tab (2 ^ m.Inputs.length) (rv m c hd (b0h m c hd (k+1)).1 ((b0h m c hd (k+1)).1.getD k zero))]:=by
 unfold b8r;rw [l5w];congr 1;refine c1m fun i hi=>?_;have hlt:=Nat.lt_of_lt_of_le (hk i vg9) (d4g (m:=m) (c:=c) (hd:=hd) (show i<=k by omega)).length_le;obtain ⟨p,hp⟩:=b3b hlt;have hp':=c0r (c3y (m:=m) (c:=c) (hd:=hd) k) hp;simp only [List.getD_eq_getElem?_getD,hp,hp',Option.getD_some];exact c1m fun j hj=>g24 (c3y k) fun ha=>closed hp hi ha hj
def b4a (m:Machine) (c:List (List Literal)) (hd:Nat->Int) (K:Nat):control_walk:=⟨(b0h m c hd K).1,(b0h m c hd K).2.1,(b0h m c hd K).2.2,b8r m c hd (b0h m c hd K).1 K⟩
theorem d7u (hm:OkM m) {ins:Bool} (hc:b2s m ins c) {heard:Int->Option Int} (hh:∀ x:Nat,x<2 ^ m.Inputs.length->heard x=some (hd x)) {K:Nat} (hK:End m c hd K) :
  b9h ⟨⟨m⟩⟩ c heard=some (b4a m c hd K):=by
 obtain ⟨hK0,hK1,hK2⟩:=hK;have hpow:=p2a hm.z;unfold b9h c6a
 have := b4h (f:=b9i ⟨⟨m⟩⟩ c heard) K (fun (s:S3 × List (List Int)) k=>(s.1.1,s.1.2.1,s.1.2.2,s.2,fnd s.1.1,k)) (fun k=>(b0h m c hd k,b8r m c hd (b0h m c hd k).1 k)) ((b0h m c hd K).1,(b0h m c hd K).2.1,(b0h m c hd K).2.2,b8r m c hd (b0h m c hd K).1 K) (s0:=(([zero],[-1],[0]),[])) rfl (fun k hk=>by
   have hlt:=hK1 k hk;obtain ⟨p,hp⟩:=b3b hlt;have hg:=s3t (c:=c) (hd:=hd) hm k
   have hall:c1y ⟨m⟩=some ((2 ^ m.Inputs.length:Nat):Int):=by
    unfold c1y;have:=hm.z.i;simp only;rw [c83 vg9]; simp
   have hout:b0h m c hd (k+1)=inn m c hd k p (2 ^ m.Inputs.length) (b0h m c hd k):=by
    conv => lhs; unfold b0h
    rw [hp]
   have hg':=s3t (c:=c) (hd:=hd) hm (k+1);have hp':=c0r (c3y (m:=m) (c:=c) (hd:=hd) k) hp;rw [l0o fun j hj=>hK1 j vg9,List.getD_eq_getElem?_getD,hp',Option.getD_some];unfold b9i c59 c6b;simp only [Int.ofNat_lt,hlt,decide_true,if_true,b1h hp,bS9];rw [hall,bS9,g1q vg9 vg9,bS9,j5z hm hc hh (hg.o p (b1d.2 ⟨k,hp⟩)) hg,bS9,<- hout];simp only
   rw [b6d (by unfold b8r; rw [b3y]; omega) vi9 vg9,bS9,b2r hk (b1o vg9)]) (by
   unfold b9i;have:¬ K<(b0h m c hd K).1.length:=by omega
   simp only [Int.ofNat_lt,this,decide_false,fT9,if_false])
 have e0:b3w ([]:List (Place × Int)) (Place.mk 0 (0,0)) 0=fnd [zero]:=rfl;rw [e0];show (b0w (b9i ⟨⟨m⟩⟩ c heard) ([zero],[-1],[0],[],fnd [zero],0)).bind _=_
 rw [this]; rfl
end
noncomputable section
structure Tr (m:Machine) (c:List (List Literal)) (hd:Nat->Int) (s:S3):Prop where
 z : s.1[0]?=some zero
 b : s.2.1[0]?=some (-1)
 t : ∀ (k:Nat) q,1<=k->s.1[k]?=some q->∃ (b x:Nat) (p:Place),s.2.1[k]?=some (b:Int)/\s.2.2[k]?=some (x:Int)/\b<k/\x<2 ^ m.Inputs.length/\s.1[b]?=some p/\c25 m p x c=true/\q=nxt m p (hd x)
section
variable {m:Machine} {c:List (List Literal)} {hd:Nat->Int}
def c52 (l:List Nat):List Int:=l.map fun x:Nat=>(x:Int)
theorem g0o {l:List Nat}:(c52 l).length=l.length:=by simp [c52]
theorem g0n {l r:List Nat}:c52 (l++r)=c52 l++c52 r:=by simp [c52]
theorem g0p {x:Nat}:c52 [x]=[(x:Int)]:=rfl
theorem g5t {l:List Int} (hl:l.length<=maxLen):H9x l=some l.reverse:=by
 unfold H9x c9l;have hml:(maxLen:Int)<=9223372036854775807:=by decide
 rw [c1n hl]
 have key:∀ d i:Nat,l.length - 2 * i<=d->2 * i<=l.length+1->b0w c1j (tab l.length (fun q=>if q<i\/l.length - 1 - i<q then l.getD (l.length - 1 - q) 0 else l.getD q 0),(i:Int),(l.length:Int) - 1 - i)=some l.reverse:=by
  intro d;induction d with
  | zero =>
   intro i hd hi;refine b3d ?_;unfold c1j;have:¬ ((i:Int)<(l.length:Int) - 1 - i):=by omega
   simp only [this,decide_false,fT9,if_false,iE9,Out.br.injEq];apply List.ext_getElem
   ·rw [b3y,List.length_reverse]
   ·intro q h1 h2;rw [b3y] at h1;simp only [tab,List.getElem_map,List.getElem_range,List.getElem_reverse];split
    ·rw [List.getD_eq_getElem?_getD,gG9 vg9]; rfl
    ·have : l.length - 1 - q=q:=by omega
     rw [List.getD_eq_getElem?_getD,gG9 vg9];simp only [this]; rfl
  | succ d ih =>
   intro i hd hi;by_cases hlt:2 * i+1<l.length
   case neg =>
    refine b3d ?_;unfold c1j;have:¬ ((i:Int)<(l.length:Int) - 1 - i):=by omega
    simp only [this,decide_false,fT9,if_false,iE9,Out.br.injEq];apply List.ext_getElem
    ·rw [b3y,List.length_reverse]
    ·intro q h1 h2;rw [b3y] at h1;simp only [tab,List.getElem_map,List.getElem_range,List.getElem_reverse];split
     ·rw [List.getD_eq_getElem?_getD,gG9 vg9]; rfl
     ·have : l.length - 1 - q=q:=by omega
      rw [List.getD_eq_getElem?_getD,gG9 vg9];simp only [this]; rfl
   case pos =>
    have hj:(l.length:Int) - 1 - i=((l.length - 1 - i:Nat):Int):=by omega
    rw [<- ih (i+1) vg9 vg9];refine w91 ?_;unfold c1j;have:(i:Int)<((l.length - 1 - i:Nat):Int):=by omega
    simp only [hj,this,decide_true,if_true,c2y (show l.length - 1 - i<l.length by omega),c2y (show i<l.length by omega),bS9,Int.toNat_natCast];rw [if_neg vg9,if_neg vg9,d5i,c2y vg9,bS9,d5i,b3t vg9 vg9,b3t vg9 vg9];congr 2;refine Prod.ext ?_ (Prod.ext ?_ ?_)
    ·refine c1m fun q hq=>?_;by_cases e1:q=l.length - 1 - i
     ·rw [if_pos e1,if_pos vg9]; congr 1; omega
     ·rw [if_neg e1];by_cases e2:q=i
      ·rw [if_pos e2,if_pos vg9]; congr 1; omega
      ·rw [if_neg e2];by_cases e3:q<i\/l.length - 1 - i<q
       ·rw [if_pos e3,if_pos vg9]
       ·rw [if_neg e3,if_neg vg9]
    ·simp
    ·simp only; omega
 have h0:=key l.length 0 vg9 vg9
 have e:tab l.length (fun q=>if q<0\/l.length - 1 - 0<q then l.getD (l.length - 1 - q) 0 else l.getD q 0)=l:=by
  apply List.ext_getElem
  ·rw [b3y]
  ·intro q h1 h2;simp only [tab,List.getElem_map,List.getElem_range];rw [if_neg vg9,List.getD_eq_getElem?_getD,gG9 h2]; rfl
 rw [e] at h0;simp only [Int.natCast_zero,Int.sub_zero] at h0;rw [h0]; rfl
end
end
end Go.Nw.YM
namespace Go.Nw.YM
open Go.Nw.Tp5
variable {O:Orac} [MapsOk O]
theorem L7k (h1:Has O "newel/shaft.Move" x_shaft_Move) (h2:Has O "newel/shaft.begin" x_shaft_begin) (h3:Has O "(*newel/shaft.crate).fits" x___shaft_crate__fits) (h4:Has O "(*newel/shaft.crate).move" x___shaft_crate__move) (h5:Has O "(*newel/shaft.crate).long" x___shaft_crate__long) (h6:Has O "(*newel/shaft.crate).free" x___shaft_crate__free) (L5g:L41 O) (L5h:L5d O):L54 O:=by
 exact M11 h1 L5g (L8x h2) (L59 h3 (L47 h5) (L46 h6)) (L8y h4 (L47 h5) (L46 h6) (L59 h3 (L47 h5) (L46 h6)) L5h)
theorem L7i (h1:Has O "newel/shaft.Carry" x_shaft_Carry) (h2:Has O "newel/shaft.begin" x_shaft_begin) (h3:Has O "(*newel/shaft.crate).fits" x___shaft_crate__fits) (h4:Has O "(*newel/shaft.crate).move" x___shaft_crate__move) (h5:Has O "(*newel/shaft.crate).long" x___shaft_crate__long) (h6:Has O "(*newel/shaft.crate).free" x___shaft_crate__free) (h7:Has O "(*newel/shaft.crate).carry" x___shaft_crate__carry) (L5g:L41 O) (L5h:L5d O) (d3x:d00 O):L53 O:=by
 exact M10 h1 L5g (L8x h2) (L59 h3 (L47 h5) (L46 h6)) (M1y h7 (L8y h4 (L47 h5) (L46 h6) (L59 h3 (L47 h5) (L46 h6)) L5h) d3x fun l hl=>g5t (by simp only [maxLen]; omega))
end Go.Nw.YM
namespace Go.Nw.YM
noncomputable section
def stC (m:Machine) (c:List (List Literal)) (hd:Nat->Int) (p:Place) (x:Nat):Option Place:=if x<2 ^ m.Inputs.length/\c25 m p x c=true then some (nxt m p (hd x)) else none
structure RunOf (s:S3) (l:List (Place × List Nat)):Prop where
 p : s.1=l.map (·.1)
 b : s.2.1.length=l.length
 i : s.2.2.length=l.length
 z : s.2.1[0]?=some (-1)
 t : ∀ (k:Nat) e,1<=k->l[k]?=some e->∃ (b x:Nat) (d:Place × List Nat),b<k/\s.2.1[k]?=some (b:Int)/\s.2.2[k]?=some (x:Int)/\l[b]?=some d/\e.2=d.2++[x]
section
variable {m:Machine} {c:List (List Literal)} {hd:Nat->Int}
theorem H9l {α:Type} {l:List α} {k:Nat} {x y:α} (h:l[k]?=some x):(l++[y])[k]?=some x:=by rw [List.getElem?_append_left (b1k h)]; exact h
theorem J0q {α:Type} {l:List α} {y:α}:(l++[y])[l.length]?=some y:=by rw [List.getElem?_append_right (Nat.le_refl _)]; simp
theorem J38 {s:S3} {l:List (Place × List Nat)} (h:RunOf s l) {i x:Nat} {a:Place × List Nat} (ha:l[i]?=some a):RunOf (if x<2 ^ m.Inputs.length/\c25 m a.1 x c=true then b5l s i x (nxt m a.1 (hd x)) else s) (look (stC m c hd) l a x):=by
 unfold look stC;by_cases hc:x<2 ^ m.Inputs.length/\c25 m a.1 x c=true
 case neg=>rw [if_neg hc,if_neg hc]; exact h
 rw [if_pos hc,if_pos hc];simp only;unfold b5l
 have hm:(nxt m a.1 (hd x)∈s.1) ↔ (l.any fun e=>decide (e.1=nxt m a.1 (hd x)))=true:=by
  rw [h.p,List.mem_map,List.any_eq_true];constructor
  ·rintro ⟨e,h1,h2⟩; exact ⟨e,h1,by simpa using h2⟩
  ·rintro ⟨e,h1,h2⟩; exact ⟨e,h1,by simpa using h2⟩
 by_cases hk:nxt m a.1 (hd x)∈s.1
 ·rw [if_pos hk,if_pos (hm.1 hk)]; exact h
 ·rw [if_neg hk,if_neg (fun hh=>hk (hm.2 hh))];have el:s.2.1.length=l.length:=h.b;have ei:s.2.2.length=l.length:=h.i;refine ⟨by simp [h.p],by simp [h.b],by simp [h.i],H9l h.z,fun k e hk1 he=>?_⟩;by_cases hlt:k<l.length
  ·rw [List.getElem?_append_left hlt] at he;obtain ⟨b,x',d,h1,h2,h3,h4,h5⟩:=h.t k e hk1 he;exact ⟨b,x',d,h1,H9l h2,H9l h3,H9l h4,h5⟩
  ·have hkl:=b1k he
   simp only [List.length_append,List.length_cons,List.length_nil] at hkl;have e1:k=l.length:=by omega
   subst e1;rw [J0q] at he; cases he;refine ⟨i,x,a,b1k ha,?_,?_,H9l ha,rfl⟩
   ·rw [<- el]; exact J0q
   ·rw [<- ei]; exact J0q
theorem J1q {i:Nat} {s:S3} {l:List (Place × List Nat)} (hF:Found (stC m c hd) zero i 0 l) (hR:RunOf s l) {a:Place × List Nat} (ha:l[i]?=some a):∀ x,x<=2 ^ m.Inputs.length ->
  ∃ l',Found (stC m c hd) zero i x l'/\RunOf (inn m c hd i a.1 x s) l'/\l'[i]?=some a
 | 0,_=>⟨l,hF,hR,ha⟩
 | x+1,hx=>by
  obtain ⟨l',h1,h2,h3⟩:=J1q hF hR ha x vg9;obtain ⟨g1,g2⟩:=J3c h1 h3;refine ⟨_,g1,?_,c0r g2 h3⟩;have:=J38 (m:=m) (c:=c) (hd:=hd) h2 (x:=x) h3;unfold inn;have hlt:x<2 ^ m.Inputs.length:=by omega
  by_cases hal:c25 m a.1 x c=true
  ·rw [if_pos hal]; rw [if_pos ⟨hlt,hal⟩] at this; exact this
  ·rw [if_neg hal]; rw [if_neg fun h=>hal h.2] at this; exact this
theorem J1z:∀ k,∃ l,Found (stC m c hd) zero k 0 l/\RunOf (b0h m c hd k) l
 | 0=>⟨[(zero,[])],J3e zero,⟨rfl,rfl,rfl,rfl,fun k e hk he=>by
   have := b1k he
   simp at this; omega⟩⟩
 | k+1=>by
  obtain ⟨l,h1,h2⟩:=J1z k;unfold b0h
  cases hp:(b0h m c hd k).1[k]? with
  | none =>
   have hl:l[k]?=none:=by
    rw [h2.p,List.getElem?_map] at hp
    cases hh:l[k]? with
    | none=>rfl
    | some e=>rw [hh] at hp; cases hp
   refine ⟨l,⟨h1.z0,h1.g,h1.s0,h1.n,fun j y a q hj ha hst=>?_,fun a ha=>?_⟩,h2⟩
   ·by_cases e:j=k
    ·subst e; rw [hl] at ha; cases ha
    ·exact h1.c j y a q vg9 ha hst
   ·have := b1k ha
    rw [List.getElem?_eq_none_iff] at hl;omega
  | some p =>
   rw [h2.p,List.getElem?_map] at hp
   cases hh:l[k]? with
   | none=>rw [hh] at hp; cases hp
   | some e =>
    rw [hh] at hp;simp only [Option.map_some,iE9] at hp;subst hp;obtain ⟨l',g1,g2,_⟩:=J1q h1 h2 hh (2 ^ m.Inputs.length) (Nat.le_refl _);exact ⟨l',J3d g1 fun p y hy=>by unfold stC; rw [if_neg vg9],g2⟩
theorem J07 {s:S3} {l:List (Place × List Nat)} (h:RunOf s l) (hF:∀ e,l[0]?=some e->e.2=[]):∀ (d k:Nat) e,k<=d->l[k]?=some e->e.2.length<=k
 | 0,k,e,hk,he=>by
  have : k=0:=by omega
  subst this;rw [hF e he]; exact Nat.le_refl _
 | d+1,k,e,hk,he=>by
  by_cases hz:k=0
  ·subst hz; rw [hF e he]; exact Nat.le_refl _
  obtain ⟨b,x,d',h1,_,_,h4,h5⟩:=h.t k e vg9 he;have:=J07 h hF d b d' vg9 h4;rw [h5]; simp; omega
theorem J4k {s:S3} {l:List (Place × List Nat)} (h:RunOf s l) (hF:∀ e,l[0]?=some e->e.2=[]) (hl:l.length<=768) {w:control_walk} (hw:w.from_=s.2.1/\w.by_=s.2.2) {k:Nat} {e:Place × List Nat} (he:l[k]?=some e):b71 w k=some (c52 e.2):=by
 have key:∀ (d k:Nat) e,k<=d->l[k]?=some e->∀ r:List Int,r.length+k<=768->b0w (b72 w) ((k:Int),r)=some (r++(c52 e.2).reverse):=by
  intro d;induction d with
  | zero =>
   intro k e hk he r hr;have:k=0:=by omega
   subst this;rw [hF e he];refine b3d ?_;unfold b72;simp only [hw.1];have:=b1h h.z;simp only [Int.natCast_zero] at this ⊢
   rw [this]; simp [c52]
  | succ d ih =>
   intro k e hk he r hr;by_cases hz:k=0
   ·exact ih k e vg9 he r hr
   obtain ⟨b,x,d',h1,h2,h3,h4,h5⟩:=h.t k e vg9 he
   have : b0w (b72 w) ((k:Int),r)=b0w (b72 w) ((b:Int),r++[(x:Int)]):=w91 (by
    unfold b72;simp only [hw.1,hw.2,b1h h2,b1h h3,bS9,Int.natCast_nonneg,decide_true,if_true]
    rw [b6d vg9 vi9 vg9,bS9])
   rw [this,ih b d' vg9 h4 _ (by simp; omega),h5,g0n,g0p];simp
 have hlen:=J07 h hF k k e (Nat.le_refl _) he;have hk:=b1k he;unfold b71 c57;rw [key k k e (Nat.le_refl _) he [] (by simp; omega),bS9,List.nil_append,g5t (by rw [List.length_reverse,g0o]; exact b1o vg9),bS9,List.reverse_reverse]
theorem J2l (hm:OkM m) {ins ins':Bool} (hc:b2s m ins c) {never:List (List Literal)} (hn:b2s m ins' never) {heard:Int->Option Int} (hh:∀ x:Nat,x<2 ^ m.Inputs.length->heard x=some (hd x)) :
  ∃ r,c1t ⟨⟨m⟩⟩ c never heard=some r /\
   ((r = ([],false)/\∀ q l,gos (stC m c hd) zero l=some q->b46 m q 0 never=false) \/
    ∃ q l,r=(c52 l,true)/\l.length<=768/\H85 (stC m c hd) zero q l/\b46 m q 0 never=true):=by
 obtain ⟨K,hK⟩:=g2u (c:=c) (hd:=hd) hm;obtain ⟨L,hF,hR⟩:=J1z (m:=m) (c:=c) (hd:=hd) K;have hg:=s3t (c:=c) (hd:=hd) hm K;have hl:=c0q hm hg.n hg.o;have eL:(b0h m c hd K).1.length=L.length:=by rw [hR.p,List.length_map]
 have hend:L.length<=K:=by rw [<- eL]; exact hK.2.2
 have hz:∀ e,L[0]?=some e->e.2=[]:=fun e he=>by rw [hF.z0] at he; cases he; rfl
 have hat:∀ {k:Nat} {e},L[k]?=some e->(b0h m c hd K).1[k]?=some e.1:=fun {k e} he=>by rw [hR.p,List.getElem?_map,he]; rfl
 have hwant:∀ k:Nat,k<L.length->b9g (k:Int) ⟨⟨m⟩⟩ never (b4a m c hd K)=some (b46 m (L.getD k (zero,[])).1 0 never):=fun k hk=>by
  obtain ⟨e,he⟩:=b3b hk;have ho:=hg.o e.1 (b1d.2 ⟨k,hat he⟩);unfold b9g b4a;simp only [b1h (hat he),bS9,c5w hm.z ho.s hn,List.getD_eq_getElem?_getD,he,Option.getD_some]
 have e1:=c7s (f:=b9f (b4a m c hd K) fun z5=>b9g z5 ⟨⟨m⟩⟩ never (b4a m c hd K)) (n:=L.length) (p:=fun k=>b46 m (L.getD k (zero,[])).1 0 never) (e:=fun k=>.inr (c52 (L.getD k (zero,[])).2,true)) (u:=.inl ()) (fun t h hp=>by
   obtain ⟨e,he⟩:=b3b h;have hr:=J4k hR hz vg9 (w:=b4a m c hd K) ⟨rfl,rfl⟩ he;have hp':b46 m e.1 0 never=true:=by simpa only [List.getD_eq_getElem?_getD,he,Option.getD_some] using hp
   unfold b9f;have h':(t:Int)<((b4a m c hd K).places.length:Int):=by show (t:Int)<((b0h m c hd K).1.length:Int); omega
   simp only [h',decide_true,if_true,hwant t h,bS9,hp',hr,List.getD_eq_getElem?_getD,he,Option.getD_some]) (fun t h hp=>by
   unfold b9f;have h':(t:Int)<((b4a m c hd K).places.length:Int):=by show (t:Int)<((b0h m c hd K).1.length:Int); omega
   simp only [h',decide_true,if_true,hwant t h,bS9,hp,fT9,if_false,b2r h (b1o vg9)]) (by
   unfold b9f;have h':¬ ((L.length:Nat):Int)<((b4a m c hd K).places.length:Int):=by show ¬ ((L.length:Nat):Int)<((b0h m c hd K).1.length:Int); omega
   simp only [h',decide_false,fT9,if_false])
 have hfirst:∃ r,b9e (b4a m c hd K) (fun z5=>b9g z5 ⟨⟨m⟩⟩ never (b4a m c hd K))=some r/\((r=([],false)/\∀ k,k<L.length->b46 m (L.getD k (zero,[])).1 0 never=false)\/∃ (k:Nat) (e:Place × List Nat),L[k]?=some e/\r=(c52 e.2,true)/\b46 m e.1 0 never=true):=by
  unfold b9e c56;rw [e1,bS9]
  cases hf:b5q L.length (fun k=>b46 m (L.getD k (zero,[])).1 0 never) with
  | none=>exact ⟨_,rfl,.inl ⟨rfl,d72.1 hf⟩⟩
  | some k =>
   obtain ⟨h1,h2,h3⟩:=j00 hf;obtain ⟨e,he⟩:=b3b h1;refine ⟨_,rfl,.inr ⟨k,e,he,?_,?_⟩⟩
   ·simp only [List.getD_eq_getElem?_getD,he,Option.getD_some]
   ·simpa only [List.getD_eq_getElem?_getD,he,Option.getD_some] using h2
 obtain ⟨r,h1,h2⟩:=hfirst;refine ⟨r,?_,?_⟩
 ·unfold c1t;rw [d7u hm hc hh hK,bS9,h1]; rfl
 ·rcases h2 with ⟨rfl,h3⟩|⟨k,e,he,rfl,h3⟩
  ·refine .inl ⟨rfl,fun q l hq=>?_⟩;obtain ⟨b,hb,rfl,_⟩:=J1j hF hend l q hq;obtain ⟨k,hk⟩:=b1d.1 hb;have:=h3 k (b1k hk);simpa only [List.getD_eq_getElem?_getD,hk,Option.getD_some] using this
  ·have hlen:=J07 hR hz k k e (Nat.le_refl _) he
   have hk:=b1k he;exact .inr ⟨e.1,e.2,rfl,by omega,J3b hF hend (b1d.2 ⟨k,he⟩),h3⟩
theorem J2g (hm:OkM m) (hf:∀ n∈b3g m,n.size<=maxLen) {never:List (List Literal)} (hn:b2s m true never) :
  ∃ r,c2e m [] never=some r/\r.2.2=0 /\
   ((r.1 = []/\r.2.1=false/\∀ q l,gos (stC m [] fun x=>x) zero l=some q->b46 m q 0 never=false) \/
    ∃ q l,r.1=c52 l/\r.2.1=true/\l.length<=768/\H85 (stC m [] fun x=>x) zero q l/\b46 m q 0 never=true):=by
 have h0:b2s m true []:=⟨by simp,fun t ht=>by simp at ht⟩
 have hchk:b9x m [[],never]=some 0:=by
  unfold b9x c2f;obtain ⟨e,h1,h2⟩:=g5l hf;rcases h2 with ⟨rfl,_⟩|⟨_,h2⟩
  case inr=>exact absurd hm h2
  rw [h1,bS9,bS9,if_neg vi9]
  rcases b4j (f:=c2i m [[],never]) (l:=[[],never]) (p:=fun _ t=>¬ b2s m true t) (e:=.inr 42) (u:=.inl ()) (b1o vi9) (fun k x hx=>by
    obtain ⟨b,h3,h4⟩:=d5p hm.z x;refine ⟨!b,?_,?_⟩
    ·unfold c2i;simp only [b1h hx,bS9,Int.ofNat_lt,b1k hx,decide_true,if_true,h3]
    ·rw [<- h4]; simp) (by unfold c2i; simp only [Int.lt_irrefl,decide_false,fT9,if_false]) with ⟨_,h2⟩|⟨⟨k,x,h3,h4⟩,_⟩
  ·rw [h2]; rfl
  ·exfalso;match k,h3 with
   | 0,h3=>cases h3; exact h4 h0
   | 1,h3=>cases h3; exact h4 hn
   | k+2,h3=>simp at h3
 obtain ⟨r,h1,h2⟩:=J2l (hd:=fun x=>x) hm h0 hn (heard:=fun z7=>some (b6f z7)) (fun x _=>rfl);refine ⟨(r.1,r.2,0),?_,rfl,?_⟩
 ·unfold c2e;rw [hchk,bS9,if_neg vi9,show b3h m=⟨⟨m⟩⟩ from rfl,h1]; rfl
 ·rcases h2 with ⟨rfl,h3⟩|⟨q,l,rfl,h3⟩
  ·exact .inl ⟨rfl,rfl,h3⟩
  ·exact .inr ⟨q,l,rfl,rfl,h3⟩
end
end
end Go.Nw.YM
namespace Go.Nw.YM
open Go.Nw.Tp5
noncomputable section
theorem L4l {β:Type} {f:Int->Option (Out Int (Unit ⊕ β))} {b0 b1 b2:Bool} {e:β} (h0:f 0=if b0=true then some (.br (.inr e)) else some (.nx 1)) (h1:f 1=if b1=true then some (.br (.inr e)) else some (.nx 2)) (h2:f 2=if b2=true then some (.br (.inr e)) else some (.nx 3)) (h3:f 3=some (.br (.inl ()))) :
  b0w f 0=some (if (b0 || b1 || b2)=true then .inr e else .inl ()):=by
 cases b0 with
 | true=>exact b3d h0
 | false =>
  rw [w91 h0]
  cases b1 with
  | true=>exact b3d h1
  | false =>
   rw [w91 h1]
   cases b2 with
   | true=>exact b3d h2
   | false =>
    rw [w91 h2];exact b3d h3
theorem L4i (a b c:Int):get [a,b,c] 0=some a:=rfl
theorem L4j (a b c:Int):get [a,b,c] 1=some b:=rfl
theorem L4k (a b c:Int):get [a,b,c] 2=some c:=rfl
def inV (z c:V3):Bool:=(decide (0<=c.1) && decide (c.1<=z.1 - 1)) && (decide (0<=c.2.1) && decide (c.2.1<=z.2.1 - 1)) && (decide (0<=c.2.2) && decide (c.2.2<=z.2.2 - 1))
theorem L71 (n:Int) (h:l70 n):wr (n - 1)=n - 1:=by unfold l70 at h; exact b3t vg9 vg9
theorem M1x {s:Shaft} (hz:b80 s.Size) (c:V3):L5t s c=some (inV s.Size c):=by
 obtain ⟨z1,z2,z3⟩:=hz;unfold L5t;rw [L4l (f:=L4v s c) (e:=false) (b0:=!(decide (0<=c.1) && decide (c.1<=s.Size.1 - 1))) (b1:=!(decide (0<=c.2.1) && decide (c.2.1<=s.Size.2.1 - 1))) (b2:=!(decide (0<=c.2.2) && decide (c.2.2<=s.Size.2.2 - 1))) (by unfold L4v x87; simp only [Int.reduceLT,decide_true,if_true,L4i,bS9,L71 _ z1]; rfl) (by unfold L4v x87; simp only [Int.reduceLT,decide_true,if_true,L4j,bS9,L71 _ z2]; rfl) (by unfold L4v x87; simp only [Int.reduceLT,decide_true,if_true,L4k,bS9,L71 _ z3]; rfl) (by unfold L4v; simp only [Int.reduceLT,decide_false,fT9,if_false]),bS9];unfold inV
 cases decide (0<=c.1) && decide (c.1<=s.Size.1 - 1) <;> cases decide (0<=c.2.1) && decide (c.2.1<=s.Size.2.1 - 1) <;> cases decide (0<=c.2.2) && decide (c.2.2<=s.Size.2.2 - 1) <;> rfl
def bd3 (v:V3):Bool:=!(!(decide (1<=v.1) && decide (v.1<=8)) || !(decide (1<=v.2.1) && decide (v.2.1<=8)) || !(decide (1<=v.2.2) && decide (v.2.2<=8)))
theorem L8c (v:V3):bd3 v=true ↔ b80 v:=by
 unfold bd3 b80 l70;simp only [Bool.not_eq_true',Bool.or_eq_false_iff,Bool.not_eq_false',Bool.and_eq_true,decide_eq_true_eq,and_assoc]
def okV (s:Shaft):Prop:=b80 s.Size/\s.Walls.length<=256/\∀ w∈s.Walls,inV s.Size w=true
theorem C2q (s:Shaft) (hw:s.Walls.length<=maxLen):∃ y,L5p s=some y/\(y=0->okV s):=by
 unfold L5p;by_cases h256:(256:Int)<(s.Walls.length:Int)
 ·rw [if_pos (decide_eq_true h256)];exact ⟨90,rfl,fun h=>by cases h⟩
 rw [if_neg (by rw [decide_eq_false h256]; exact Bool.false_ne_true)];rw [L4l (f:=L4t s) (e:=90) (b0:=!(decide (1<=s.Size.1) && decide (s.Size.1<=8))) (b1:=!(decide (1<=s.Size.2.1) && decide (s.Size.2.1<=8))) (b2:=!(decide (1<=s.Size.2.2) && decide (s.Size.2.2<=8))) (by unfold L4t x87; simp only [Int.reduceLT,decide_true,if_true,L4i,bS9]; rfl) (by unfold L4t x87; simp only [Int.reduceLT,decide_true,if_true,L4j,bS9]; rfl) (by unfold L4t x87; simp only [Int.reduceLT,decide_true,if_true,L4k,bS9]; rfl) (by unfold L4t; simp only [Int.reduceLT,decide_false,fT9,if_false]),bS9];by_cases hb:bd3 s.Size=true
 case neg =>
  rw [if_pos (by unfold bd3 at hb; rw [Bool.not_eq_true,Bool.not_eq_false'] at hb; exact hb)];exact ⟨90,rfl,fun h=>by cases h⟩
 rw [if_neg (by unfold bd3 at hb; rw [Bool.not_eq_true'] at hb; rw [hb]; exact Bool.false_ne_true)];have hz:=(L8c _).1 hb;unfold L6f
 rcases b4j (f:=L5q s) (l:=s.Walls) (p:=fun _ w=>¬ inV s.Size w=true) (e:=.inr 90) (u:=.inl ()) hw (fun k x hx=>by
   refine ⟨!(inV s.Size x),?_,by simp⟩;unfold L5q
   simp only [b1h hx,bS9,Int.ofNat_lt,b1k hx,decide_true,if_true,M1x hz]) (by unfold L5q; simp only [Int.lt_irrefl,decide_false,fT9,if_false]) with ⟨h1,h2⟩|⟨_,h2⟩
 ·rw [h2];refine ⟨0,rfl,fun _=>⟨hz,by omega,fun w hm=>?_⟩⟩;obtain ⟨k,hk⟩:=b1d.1 hm;exact Classical.not_not.1 (h1 k w hk)
 ·rw [h2];exact ⟨90,rfl,fun h=>by cases h⟩
theorem M14 {s:Shaft} (h:okV s):L5v s=some 0:=by
 obtain ⟨hz,hn,hw⟩:=h;obtain ⟨z1,z2,z3⟩:=hz;unfold l70 at z1 z2 z3;unfold L5v;rw [L4l (f:=L4x s) (e:=90) (b0:=false) (b1:=false) (b2:=false) (by unfold L4x; simp only [Int.reduceLT,decide_true,if_true,L4i,bS9,show ¬ s.Size.1<1 by omega,show ¬ 8<s.Size.1 by omega,decide_false,Bool.or_false,fT9,if_false]; rfl) (by unfold L4x; simp only [Int.reduceLT,decide_true,if_true,L4j,bS9,show ¬ s.Size.2.1<1 by omega,show ¬ 8<s.Size.2.1 by omega,decide_false,Bool.or_false,fT9,if_false]; rfl) (by unfold L4x; simp only [Int.reduceLT,decide_true,if_true,L4k,bS9,show ¬ s.Size.2.2<1 by omega,show ¬ 8<s.Size.2.2 by omega,decide_false,Bool.or_false,fT9,if_false]; rfl) (by unfold L4x; simp only [Int.reduceLT,decide_false,fT9,if_false]),bS9];simp only [Bool.or_false,fT9,if_false];unfold L6j;rw [if_neg (by rw [decide_eq_false (show ¬ (256:Int)<(s.Walls.length:Int) by omega)]; exact Bool.false_ne_true)]
 rcases b4j (f:=L5w s) (l:=s.Walls) (p:=fun _ w=>False) (e:=.inr 90) (u:=.inl ()) (b1o vg9) (fun k x hx=>by
   refine ⟨false,?_,by simp⟩;have hin:=hw x (mG9 hx);unfold inV at hin;simp only [Bool.and_eq_true,decide_eq_true_eq] at hin;unfold L5w;simp only [b1h hx,bS9,Int.ofNat_lt,b1k hx,decide_true,if_true];rw [L4l (f:=L4w s x) (e:=90) (b0:=false) (b1:=false) (b2:=false) (by unfold L4w; simp only [Int.reduceLT,decide_true,if_true,L4i,bS9,show ¬ x.1<0 by omega,show ¬ s.Size.1<=x.1 by omega,decide_false,fT9,if_false]; rfl) (by unfold L4w; simp only [Int.reduceLT,decide_true,if_true,L4j,bS9,show ¬ x.2.1<0 by omega,show ¬ s.Size.2.1<=x.2.1 by omega,decide_false,fT9,if_false]; rfl) (by unfold L4w; simp only [Int.reduceLT,decide_true,if_true,L4k,bS9,show ¬ x.2.2<0 by omega,show ¬ s.Size.2.2<=x.2.2 by omega,decide_false,fT9,if_false]; rfl) (by unfold L4w; simp only [Int.reduceLT,decide_false,fT9,if_false]),bS9];simp only [Bool.or_false,fT9,if_false]
   rfl) (by unfold L5w; simp only [Int.lt_irrefl,decide_false,fT9,if_false]) with ⟨_,h2⟩|⟨⟨_,_,_,h⟩,_⟩
 ·rw [h2]; rfl
 ·exact h.elim
theorem M15 {s:Shaft} {e:V3} (h:okV s) (he:b80 e):L5y s e=some 0:=by
 obtain ⟨z1,z2,z3⟩:=he;unfold l70 at z1 z2 z3;unfold L5y;rw [M14 h,bS9,if_neg vi9];rw [L4l (f:=L4y e) (e:=91) (b0:=false) (b1:=false) (b2:=false) (by unfold L4y; simp only [Int.reduceLT,decide_true,if_true,L4i,bS9,show ¬ e.1<1 by omega,show ¬ 8<e.1 by omega,decide_false,Bool.or_false,fT9,if_false]; rfl) (by unfold L4y; simp only [Int.reduceLT,decide_true,if_true,L4j,bS9,show ¬ e.2.1<1 by omega,show ¬ 8<e.2.1 by omega,decide_false,Bool.or_false,fT9,if_false]; rfl) (by unfold L4y; simp only [Int.reduceLT,decide_true,if_true,L4k,bS9,show ¬ e.2.2<1 by omega,show ¬ 8<e.2.2 by omega,decide_false,Bool.or_false,fT9,if_false]; rfl) (by unfold L4y; simp only [Int.reduceLT,decide_false,fT9,if_false]),bS9];rfl
theorem M2q (s:Shaft) (e:V3) (hw:s.Walls.length<=maxLen):∃ y,L4r s e=some y/\(y=0->OkSh s e):=by
 obtain ⟨y,h1,h2⟩:=C2q s hw;unfold L4r;rw [h1,bS9];by_cases hy:y=0
 case neg =>
  rw [if_pos (by simp [hy])];exact ⟨90,rfl,fun h=>by cases h⟩
 have hs:=h2 hy;rw [if_neg (by simp [hy])];rw [L4l (f:=L4s e) (e:=91) (b0:=!(decide (1<=e.1) && decide (e.1<=8))) (b1:=!(decide (1<=e.2.1) && decide (e.2.1<=8))) (b2:=!(decide (1<=e.2.2) && decide (e.2.2<=8))) (by unfold L4s x87; simp only [Int.reduceLT,decide_true,if_true,L4i,bS9]; rfl) (by unfold L4s x87; simp only [Int.reduceLT,decide_true,if_true,L4j,bS9]; rfl) (by unfold L4s x87; simp only [Int.reduceLT,decide_true,if_true,L4k,bS9]; rfl) (by unfold L4s; simp only [Int.reduceLT,decide_false,fT9,if_false]),bS9];by_cases hb:bd3 e=true
 case neg =>
  rw [if_pos (by unfold bd3 at hb; rw [Bool.not_eq_true,Bool.not_eq_false'] at hb; exact hb)];exact ⟨91,rfl,fun h=>by cases h⟩
 rw [if_neg (by unfold bd3 at hb; rw [Bool.not_eq_true'] at hb; rw [hb]; exact Bool.false_ne_true)];have he:=(L8c _).1 hb;exact ⟨0,rfl,fun _=>⟨hs.1,he,hs.2.1,M15 hs he⟩⟩
end
end Go.Nw.YM
namespace Go.Nw.YM
open Go.Nw.Tp5
noncomputable section
def axB (z x m:Int):Bool:=decide (0<=x/\x<=z - m)
theorem L62 {β:Type} {x m z:Int} {F:Bool->Option β} (hm:l70 m) (hz:l70 z) :
  ((if ((decide (x<0)) || (decide (8<x)))=true then some true else ((some m).bind fun x27=>(some z).bind fun x28=>some (decide (x28<(wr (x+x27)))))).bind fun c=>F c)=F (!(axB z x m)):=by
 unfold l70 at hm hz;unfold axB;by_cases h:((decide (x<0)) || (decide (8<x)))=true
 ·rw [if_pos h,bS9];simp only [Bool.or_eq_true,decide_eq_true_eq] at h;rw [decide_eq_false vg9]; rfl
 ·rw [if_neg h];simp only [Bool.or_eq_true,decide_eq_true_eq,not_or] at h;simp only [bS9];rw [b3t (show -9223372036854775808<=x+m by omega) vg9];congr 1;by_cases h2:x<=z - m
  ·rw [decide_eq_false vg9,decide_eq_true vg9]; rfl
  ·rw [decide_eq_true vg9,decide_eq_false vg9]; rfl
theorem J3f {s:Shaft} {a m:V3} (hz:b80 s.Size) (hm:b80 m) (hw:s.Walls.length<=maxLen):L5r s a m=some (y50 s a m):=by
 obtain ⟨z1,z2,z3⟩:=hz;obtain ⟨m1,m2,m3⟩:=hm;unfold L5r;rw [L4l (f:=L4u s a m) (e:=false) (b0:=!(axB s.Size.1 a.1 m.1)) (b1:=!(axB s.Size.2.1 a.2.1 m.2.1)) (b2:=!(axB s.Size.2.2 a.2.2 m.2.2)) (by unfold L4u; simp only [Int.reduceLT,decide_true,if_true,L4i]; rw [bS9]; exact L62 m1 z1) (by unfold L4u; simp only [Int.reduceLT,decide_true,if_true,L4j]; rw [bS9]; exact L62 m2 z2) (by unfold L4u; simp only [Int.reduceLT,decide_true,if_true,L4k]; rw [bS9]; exact L62 m3 z3) (by unfold L4u; simp only [Int.reduceLT,decide_false,fT9,if_false]),bS9];have eB:inB s.Size a m=(axB s.Size.1 a.1 m.1 && axB s.Size.2.1 a.2.1 m.2.1 && axB s.Size.2.2 a.2.2 m.2.2):=rfl;unfold y50;rw [eB];by_cases hb:(axB s.Size.1 a.1 m.1 && axB s.Size.2.1 a.2.1 m.2.1 && axB s.Size.2.2 a.2.2 m.2.2)=true
 case neg =>
  rw [if_pos (by revert hb; cases axB s.Size.1 a.1 m.1 <;> cases axB s.Size.2.1 a.2.1 m.2.1 <;> cases axB s.Size.2.2 a.2.2 m.2.2 <;> simp),Bool.eq_false_iff.2 hb];rfl
 have hb':=hb;simp only [Bool.and_eq_true] at hb';obtain ⟨⟨b1,b2⟩,b3⟩:=hb';rw [if_neg (by rw [b1,b2,b3]; exact Bool.false_ne_true),hb,Bool.true_and];unfold axB at b1 b2 b3;unfold l70 at z1 z2 z3 m1 m2 m3;have b1:=of_decide_eq_true b1;have b2:=of_decide_eq_true b2;have b3:=of_decide_eq_true b3;unfold L6i
 have cond:∀ w:V3,((((((decide (a.1<=w.1)) && (decide (w.1<(wr (a.1+m.1))))) && (decide (a.2.1<=w.2.1))) && (decide (w.2.1<(wr (a.2.1+m.2.1))))) && (decide (a.2.2<=w.2.2))) && (decide (w.2.2<(wr (a.2.2+m.2.2)))))=(decide (a.1<=w.1/\w.1<a.1+m.1) && decide (a.2.1<=w.2.1/\w.2.1<a.2.1+m.2.1) && decide (a.2.2<=w.2.2/\w.2.2<a.2.2+m.2.2)):=fun w=>by
  rw [b3t (n:=a.1+m.1) vg9 vg9,b3t (n:=a.2.1+m.2.1) vg9 vg9,b3t (n:=a.2.2+m.2.2) vg9 vg9];simp only [Bool.decide_and,Bool.and_assoc]
 have hin:∀ b:Bool,(inW s.Walls a m=b)=(inW s.Walls a m=b):=fun _=>rfl
 rcases b4j (f:=L5s s a m) (l:=s.Walls) (p:=fun _ w=>(decide (a.1<=w.1/\w.1<a.1+m.1) && decide (a.2.1<=w.2.1/\w.2.1<a.2.1+m.2.1) && decide (a.2.2<=w.2.2/\w.2.2<a.2.2+m.2.2))=true) (e:=.inr false) (u:=.inl ()) hw (fun k x hx=>by
   refine ⟨_,?_,Iff.rfl⟩;unfold L5s
   simp only [b1h hx,bS9,Int.ofNat_lt,b1k hx,decide_true,if_true,cond x]) (by unfold L5s; simp only [Int.lt_irrefl,decide_false,fT9,if_false]) with ⟨h1,h2⟩|⟨⟨k,x,hx,hp⟩,h2⟩
 ·rw [h2]
  have : inW s.Walls a m=false:=by
   unfold inW;rw [List.any_eq_false];intro w hm;obtain ⟨k,hk⟩:=b1d.1 hm;exact h1 k w hk
  rw [this]; rfl
 ·rw [h2];have:inW s.Walls a m=true:=List.any_eq_true.2 ⟨x,mG9 hx,hp⟩;rw [this]; rfl
theorem L8b {s:Shaft} {e:V3} (h:OkSh s e) (hc:L4r s e=some 0) (p:Pose):L5c s e p=some (l64 s e p,0):=by
 have hw:s.Walls.length<=maxLen:=b1o (by have:=h.n; omega);unfold L5c;rw [hc,bS9,if_neg vi9];unfold L6h x87 L6g l64;by_cases ht:0<=p.Turn/\p.Turn<6
 ·have e1:(decide (0<=p.Turn) && decide (p.Turn<=5))=true:=by simp; omega
  rw [if_pos e1,if_pos ht,bS9,J3f h.z (L5j h.ed _) hw,decide_eq_true ht,Bool.true_and];rfl
 ·have e1:¬ (decide (0<=p.Turn) && decide (p.Turn<=5))=true:=by simp; omega
  rw [if_neg e1,decide_eq_false ht,Bool.false_and];rfl
end
end Go.Nw.YM
namespace Go.Nw.YM
open Go.Nw.Tp5
noncomputable section
def pn (i:Nat):ByteArray:=ByteArray.mk #[112,UInt8.ofNat (97+i)]
theorem J37:∀ i:Nat,i<12->K13 (ByteArray.mk #[112]) (i:Int)=some (pn i)
 | 0,_=>by unfold K13; kernel_rfl
 | 1,_=>by unfold K13; kernel_rfl
 | 2,_=>by unfold K13; kernel_rfl
 | 3,_=>by unfold K13; kernel_rfl
 | 4,_=>by unfold K13; kernel_rfl
 | 5,_=>by unfold K13; kernel_rfl
 | 6,_=>by unfold K13; kernel_rfl
 | 7,_=>by unfold K13; kernel_rfl
 | 8,_=>by unfold K13; kernel_rfl
 | 9,_=>by unfold K13; kernel_rfl
 | 10,_=>by unfold K13; kernel_rfl
 | 11,_=>by unfold K13; kernel_rfl
 | n+12,h=>by omega
def x42 (N:Nat):List State:=(List.range N).map fun i=>State.mk (pn i) 0
theorem J4r (k:Nat):x42 (k+1)=x42 k++[State.mk (pn k) 0]:=by unfold x42; rw [List.range_succ,List.map_append]; rfl
theorem J1b (N:Nat):(x42 N).length=N:=by unfold x42; simp
def H9b (i j:Nat):Literal:=Literal.mk 1 j 0 (!(i.testBit j))
def x15 (i:Nat):List (List Literal):=[(List.range 4).map (H9b i)]
theorem J2j {i:Nat} (hi:i<16):H9h (i:Int)=some (x15 i):=by
 unfold H9h H99
 have := b4h (f:=H9q (i:Int)) 4 (fun (l:List Literal) k=>(l,k)) (fun k=>(List.range k).map (H9b i)) ((List.range 4).map (H9b i)) (s0:=[]) rfl (fun k hk=>by
  unfold H9q;show (if decide ((k:Int)<4) then _ else _)=_
  rw [if_pos (by simp; omega),c9p vg9 vg9,g29 vg9,bS9,u6r vg9 vg9];have e:decide ((if i.testBit k then (1:Int) else 0)=0)=!(i.testBit k):=by cases i.testBit k <;> rfl
  rw [e,b9k (by simp; omega),bS9,b3t vg9 vg9,List.range_succ,List.map_append]; rfl) (by
  unfold H9q;show (if decide (((4:Nat):Int)<4) then _ else _)=_
  rw [if_neg vi9])
 rw [this]; rfl
theorem J1r {m:Machine} {p:Place} {x i j:Nat} (hx:x<16) (hj:j<4):lit m p (x:Int) (H9b i j)=(x.testBit j == i.testBit j):=by
 unfold lit b77 b6w H9b;simp only [decide_true,if_true];rw [g29 vg9,bS9,u6r vg9 vg9];have e:decide ((if x.testBit j then (1:Int) else 0)=1)=x.testBit j:=by cases x.testBit j <;> rfl
 rw [e]
 cases x.testBit j <;> cases i.testBit j <;> rfl
theorem H9n {m:Machine} {p:Place} {x i:Nat} (hx:x<16) (hi:i<16):b46 m p (x:Int) (x15 i)=decide (x=i):=by
 unfold b46 x15;simp only [List.any_cons,List.any_nil,Bool.or_false];rw [Bool.eq_iff_iff,List.all_eq_true];constructor
 ·intro h;rw [decide_eq_true_eq];apply Nat.eq_of_testBit_eq;intro j;by_cases hj:j<4
  ·have := h _ (List.mem_map.2 ⟨j,List.mem_range.2 hj,rfl⟩)
   rw [J1r hx hj] at this;simpa using this
  ·have hp:16<=2 ^ j:=by
    have := Nat.pow_le_pow_right (n:=2) vg9 (show 4<=j by omega);simpa using this
   rw [Nat.testBit_lt_two_pow vg9,Nat.testBit_lt_two_pow vg9]
 ·intro h l hl;rw [decide_eq_true_eq] at h;subst h;obtain ⟨j,hj,rfl⟩:=List.mem_map.1 hl;rw [J1r hx (List.mem_range.1 hj)];simp
def okB (s:ByteArray):Bool:=decide (s.size<=8) && ((wl_0.all fun w=>!decide (w.data.toList=s.data.toList)) && ((b3q s).all (fun b=>decide (97<=b) && decide (b<=122)) && decide (0<s.size)))
def full:List ByteArray:=l57++(List.range 12).map pn
theorem J1l:full.all okB=true:=by kernel_rfl
theorem J3g:decide (full.map fun s=>s.data.toList).Nodup=true:=by kernel_rfl
theorem J3h:full.Nodup:=by
 have := of_decide_eq_true J3g;unfold List.Nodup at this ⊢
 rw [List.pairwise_map] at this;exact this.imp fun h e=>h (by rw [e])
theorem J1x {s:ByteArray} (h:okB s=true):c3w s:=by
 unfold okB at h;simp only [Bool.and_eq_true,decide_eq_true_eq,List.all_eq_true] at h;refine ⟨h.1,fun hm=>?_,fun b hb=>h.2.2.1 b hb,h.2.2.2⟩;have:=h.2.1 s hm;simp at this
theorem D20 {m:Machine} {p:Place} {i k:Nat} (hi:i<16) (hk:k<16) (h:x15 i=x15 k):i=k:=by
 have e1:b46 m p (i:Int) (x15 i)=true:=by rw [H9n hi hi]; simp
 rw [h,H9n hi hk] at e1;exact of_decide_eq_true e1
end
end Go.Nw.YM
namespace Go.Nw.YM
open Go.Nw.Tp5
noncomputable section
structure Base (s:Shaft) (e:V3) (z:Pose) (i x:Nat) (L:List (Pose × List Nat)) (R:List Rule):Prop where
 fd : Found (stS s e) z i x L
 ft : ∀ p∈pz L,l64 s e p=true
 lo : ∀ r∈R,∃ (j y j2:Nat) (a b:Pose × List Nat),(j<i\/(j=i/\y<x))/\y<9/\L[j]?=some a/\L[j2]?=some b/\stS s e a.1 y=some b.1/\r=Rule.mk j j2 (x15 y) []
 hi : ∀ (j y:Nat) (a:Pose × List Nat) (q:Pose),(j<i\/(j=i/\y<x))->L[j]?=some a->stS s e a.1 y=some q->∃ (j2:Nat) (b:Pose × List Nat),L[j2]?=some b/\b.1=q/\Rule.mk j j2 (x15 y) []∈R
 l1 : L.length<=12
 l2 : R.length<=40
theorem L5o {L:List (Pose × List Nat)} {k:Nat} {a:Pose × List Nat} (h:L[k]?=some a):(pz L)[k]?=some a.1:=by unfold pz; rw [List.getElem?_map,h]; rfl
theorem K81 (L:List (Pose × List Nat)):(pz L).length=L.length:=by unfold pz; simp
theorem L86 (l:List Pose) (p:Pose) (hl:l.length<=maxLen):b0w (L4o l p) 0=some (match b5q l.length (fun k=>decide (l.getD k K47=p)) with|some t=>.inr (t:Int)|none=>.inl ()) :=
 c7s (f:=L4o l p) (n:=l.length) (p:=fun k=>decide (l.getD k K47=p)) (e:=fun k=>.inr (k:Int)) (u:=.inl ()) (fun t h hp=>by
  obtain ⟨x,hx⟩:=b3b h;unfold L4o;have hp':decide (x=p)=true:=by simpa only [List.getD_eq_getElem?_getD,hx,Option.getD_some] using hp
  simp only [Int.ofNat_lt,h,decide_true,if_true,b1h hx,bS9,hp']) (fun t h hp=>by
  obtain ⟨x,hx⟩:=b3b h;unfold L4o;have hp':decide (x=p)=false:=by simpa only [List.getD_eq_getElem?_getD,hx,Option.getD_some] using hp
  simp only [Int.ofNat_lt,h,decide_true,if_true,b1h hx,bS9,hp',fT9,if_false,b2r h hl]) (by
  unfold L4o
  simp only [Int.lt_irrefl,decide_false,fT9,if_false])
theorem L7p {st:Pose->Nat->Option Pose} {z:Pose} {i x:Nat} {L:List (Pose × List Nat)} (fd:Found st z i x L) (hl:L.length<=12) {k:Nat} {a:Pose × List Nat} (h:L[k]?=some a):L4c (pz L) a.1=some (k:Int):=by
 have hk:=b1k h;unfold L4c;rw [L86 _ _ (b1o (by rw [K81]; omega)),bS9]
 cases hf:b5q (pz L).length (fun k=>decide ((pz L).getD k K47=a.1)) with
 | none =>
  have := d72.1 hf k (by rw [K81]; exact hk);simp only [List.getD_eq_getElem?_getD,L5o h,Option.getD_some,decide_true] at this
  cases this
 | some t =>
  obtain ⟨h1,h2,_⟩:=j00 hf;rw [K81] at h1;obtain ⟨b,hb⟩:=b3b h1;simp only [List.getD_eq_getElem?_getD,L5o hb,Option.getD_some] at h2;have:t=k:=fd.n t k b a hb h (of_decide_eq_true h2);rw [this]
theorem L87 {L:List (Pose × List Nat)} {p:Pose} (hl:L.length<=12) (h:p ∉ pz L):L4c (pz L) p=some (((pz L).length:Nat):Int):=by
 unfold L4c;rw [L86 _ _ (b1o (by rw [K81]; omega)),bS9]
 cases hf:b5q (pz L).length (fun k=>decide ((pz L).getD k K47=p)) with
 | none=>rfl
 | some t =>
  obtain ⟨h1,h2,_⟩:=j00 hf;obtain ⟨b,hb⟩:=b3b h1;simp only [List.getD_eq_getElem?_getD,hb,Option.getD_some] at h2;exact absurd (of_decide_eq_true h2 ▸ mG9 hb) h
theorem Base.skip {s:Shaft} {e:V3} {z:Pose} {i x:Nat} {L:List (Pose × List Nat)} {R:List Rule} (h:Base s e z i x L R) {a:Pose × List Nat} (ha:L[i]?=some a) (hn:stS s e a.1 x=none):Base s e z i (x+1) L R:=by
 have hl:look (stS s e) L a x=L:=by unfold look; rw [hn]
 have hf:=(J3c h.fd ha).1;rw [hl] at hf;refine ⟨hf,h.ft,fun r hr=>?_,fun j y b q hjy hb hq=>?_,h.l1,h.l2⟩
 ·obtain ⟨j,y,j2,a1,b1,h1,h2⟩:=h.lo r hr;exact ⟨j,y,j2,a1,b1,by omega,h2⟩
 ·by_cases e1:j=i/\y=x
  ·obtain ⟨rfl,rfl⟩:=e1;rw [ha] at hb; cases hb;rw [hn] at hq; cases hq
  ·exact h.hi j y b q vg9 hb hq
theorem Base.next {s:Shaft} {e:V3} {z:Pose} {i:Nat} {L:List (Pose × List Nat)} {R:List Rule} (h:Base s e z i 9 L R):Base s e z (i+1) 0 L R:=by
 refine ⟨J3d h.fd fun p y hy=>L6l p y hy,h.ft,fun r hr=>?_,fun j y b q hjy hb hq=>?_,h.l1,h.l2⟩
 ·obtain ⟨j,y,j2,a1,b1,h1,h2⟩:=h.lo r hr;exact ⟨j,y,j2,a1,b1,by omega,h2⟩
 ·by_cases hy:9<=y
  ·rw [L6l b.1 y hy] at hq; cases hq
  ·exact h.hi j y b q vg9 hb hq
theorem Base.add {s:Shaft} {e:V3} {z:Pose} {i x:Nat} {L:List (Pose × List Nat)} {R:List Rule} (hz:b80 s.Size) (he:b80 e) (h:Base s e z i x L R) {a:Pose × List Nat} (ha:L[i]?=some a) (hx:x<9) {q:Pose} (hq:stS s e a.1 x=some q) {j2:Nat} {b:Pose × List Nat}
  (hb : (look (stS s e) L a x)[j2]?=some b) (hbq:b.1=q) (l1:(look (stS s e) L a x).length<=12) (l2:(R++[Rule.mk i j2 (x15 x) []]).length<=40):Base s e z i (x+1) (look (stS s e) L a x) (R++[Rule.mk i j2 (x15 x) []]):=by
 obtain ⟨hf,hp⟩:=J3c h.fd ha (x:=x);have up:∀ {k:Nat} {c:Pose × List Nat},L[k]?=some c->(look (stS s e) L a x)[k]?=some c:=fun hc=>c0r hp hc
 have down:∀ {k:Nat} {c:Pose × List Nat},k<=i->(look (stS s e) L a x)[k]?=some c->L[k]?=some c:=fun {k c} hk hc=>by
  obtain ⟨d,hd⟩:=b3b (show k<L.length by have:=b1k ha; omega);rw [up hd] at hc; rw [hd]; exact hc
 refine ⟨hf,fun p hpm=>?_,fun r hr=>?_,fun j y c q' hjy hc hq'=>?_,l1,l2⟩
 ·have hfa:=h.ft a.1 (mG9 (L5o ha))
  have hqs:=hq;unfold stS at hqs;split at hqs
  case isFalse=>cases hqs
  rename_i hok;have hqf:=L83 hz he hfa (m:=(x:Int)) vg9 hok.2;rw [Option.some.inj hqs] at hqf;unfold look at hpm;rw [hq] at hpm;simp only at hpm;split at hpm
  ·exact h.ft p hpm
  ·unfold pz at hpm;rw [List.map_append,List.mem_append] at hpm;rcases hpm with hpm|hpm
   ·exact h.ft p hpm
   ·have : p=q:=by simpa using hpm
    rw [this]; exact hqf
 ·rcases List.mem_append.1 hr with hr|hr
  ·obtain ⟨j,y,j3,a1,b1,h1,h2,h3,h4,h5,h6⟩:=h.lo r hr;exact ⟨j,y,j3,a1,b1,by omega,h2,up h3,up h4,h5,h6⟩
  ·have : r=Rule.mk i j2 (x15 x) []:=by simpa using hr
   exact ⟨i,x,j2,a,b,by omega,hx,up ha,hb,by rw [hbq]; exact hq,this⟩
 ·by_cases e1:j=i/\y=x
  ·obtain ⟨rfl,rfl⟩:=e1;rw [up ha] at hc; cases hc;rw [hq] at hq'; cases hq';exact ⟨j2,b,hb,hbq,List.mem_append_right _ (List.mem_singleton.2 rfl)⟩
  ·obtain ⟨j3,b1,h1,h2,h3⟩:=h.hi j y c q' vg9 (down vg9 hc) hq';exact ⟨j3,b1,up h1,h2,List.mem_append_left _ h3⟩
end
end Go.Nw.YM
namespace Go.Nw.YM
open Go.Nw.Tp5
noncomputable section
section
variable {s:Shaft} {c:l09_Crate} (hok:OkSh s (c.Edges.1,c.Edges.2.1,c.Edges.2.2)) (hme:L1k=some true)
include hok
theorem L91 {p:Pose} (hf:l64 s (c.Edges.1,c.Edges.2.1,c.Edges.2.2) p=true) {x:Nat} (hx:x<9):L5x s (c.Edges.1,c.Edges.2.1,c.Edges.2.2) p (x:Int)=some (match stS s (c.Edges.1,c.Edges.2.1,c.Edges.2.2) p x with|some q=>(q,0)|none=>(K47,3)):=by
 obtain ⟨b1,b2,b3,b4⟩:=L43 hok.z hok.ed hf;unfold L5x;rw [if_pos ⟨hok,by unfold L9a sml; omega⟩,hf];have h1:(!true || decide ((x:Int)<0) || decide (8<(x:Int)))=false:=by simp; omega
 rw [h1];unfold stS;simp only [fT9,if_false,hx,true_and];split <;> rfl
include hme
theorem M2d {z:Pose} {i:Nat} {l61:List State} {L:List (Pose × List Nat)} {R:List Rule} (hi:i<L.length) (h:Base s (c.Edges.1,c.Edges.2.1,c.Edges.2.2) z i 0 L R) :
  ∃ b,b0w (L49 s c (i:Int) l61) (pz L,R,0)=some b/\(b = .inr true\/∃ L' R',b = .inl (pz L',l61,R')/\i<L'.length/\Base s (c.Edges.1,c.Edges.2.1,c.Edges.2.2) z (i+1) 0 L' R'):=by
 have hMv:=fun p hf x hx=>@L91 s c hok p hf x hx;generalize he:(c.Edges.1,c.Edges.2.1,c.Edges.2.2)=e at *
 have hE:=hok.ed;have hZ:=hok.z;refine j7u (f:=L49 s c (i:Int) l61) 9 (fun (x:List Pose × List Rule) k=>(x.1,x.2,k)) (fun k x=>∃ L,x.1=pz L/\i<L.length/\Base s e z i k L x.2) (fun b=>b = .inr true\/∃ L' R',b = .inl (pz L',l61,R')/\i<L'.length/\Base s e z (i+1) 0 L' R') (fun x k hk hI=>?_) (fun x hI=>?_) (s:=(pz L,R)) 0 (Nat.zero_le _) ⟨L,rfl,hi,h⟩
 ·obtain ⟨P,R⟩:=x;obtain ⟨L,hP,hi,h⟩:=hI;simp only at hP h;subst hP;obtain ⟨a,ha⟩:=b3b hi;have hfa:=h.ft a.1 (mG9 (L5o ha));have ew:wr ((k:Int)+1)=(k:Int)+1:=b3t vg9 vg9;have hmv:=hMv a.1 hfa k hk;unfold L49;show (∃ s',(if decide ((k:Int)<9) then _ else _)=_/\_)\/∃ b,(if decide ((k:Int)<9) then _ else _)=_/\_
  rw [if_pos (decide_eq_true (show (k:Int)<9 by omega)),b1h (L5o ha),bS9,he,hmv,bS9]
  cases hst:stS s e a.1 k with
  | none =>
   simp only [decide_true,if_true];refine .inl ⟨(pz L,R),?_,L,rfl,hi,h.skip ha hst⟩;unfold L5b;rw [ew]
  | some q =>
   have hl:=h.l1;have hr:=h.l2;have hi12:i<16:=by omega
   simp only [Int.reduceEq,decide_false,fT9,if_false,not_true_eq_false,decide_false];rw [show Pose.mk (q.At.1,q.At.2.1,q.At.2.2) q.Turn=q from rfl];-- what is done with the rule
   have rule:∀ (j2:Nat) (b:Pose × List Nat),(look (stS s e) L a k)[j2]?=some b->b.1=q->(look (stS s e) L a k).length<=13->(∃ s':List Pose × List Rule,L4n (i:Int) R (k:Int) (j2:Int) (pz (look (stS s e) L a k))=some (.nx (s'.1,s'.2,(k:Int)+1))/\∃ L,s'.1=pz L/\i<L.length/\Base s e z i (k+1) L s'.2)\/∃ b,L4n (i:Int) R (k:Int) (j2:Int) (pz (look (stS s e) L a k))=some (.br b)/\(b = .inr true\/∃ L' R',b = .inl (pz L',l61,R')/\i<L'.length/\Base s e z (i+1) 0 L' R'):=by
    intro j2 b hb hbq hll;unfold L4n;rw [J2j vg9,bS9,b9k (by simp only [List.length_cons,List.length_nil]; omega),bS9];by_cases hc:(decide (12<(((pz (look (stS s e) L a k)).length:Nat):Int)) || decide (40<(((R++[Rule.mk (i:Int) (j2:Int) (x15 k) []]).length:Nat):Int)))=true
    ·rw [if_pos hc,hme,bS9];exact .inr ⟨_,rfl,.inl rfl⟩
    ·rw [if_neg hc];simp only [Bool.or_eq_true,decide_eq_true_eq,not_or] at hc;rw [K81] at hc
     have hlen:i<(look (stS s e) L a k).length:=by
      have := (J3c h.fd ha (x:=k)).2;have:=this.length_le;omega
     refine .inl ⟨(pz (look (stS s e) L a k),R++[Rule.mk (i:Int) (j2:Int) (x15 k) []]),?_,look (stS s e) L a k,rfl,hlen,h.add hZ hE ha hk hst hb hbq vg9 vg9⟩;unfold L5b;rw [ew]
   by_cases hm:q∈pz L
   ·unfold pz at hm;obtain ⟨b,hbm,hbq⟩:=List.mem_map.1 hm;obtain ⟨j2,hb⟩:=b1d.1 hbm
    have hlk:look (stS s e) L a k=L:=by
     unfold look;rw [hst];simp only;rw [if_pos (List.any_eq_true.2 ⟨b,hbm,by simpa using hbq⟩)]
    have hpo:=L7p h.fd hl hb;rw [hbq] at hpo;rw [hpo,bS9,if_neg (by rw [K81]; have:=b1k hb; simp; omega)];rw [hlk] at rule;exact rule j2 b hb hbq vg9
   ·have hlk:look (stS s e) L a k=L++[(q,a.2++[k])]:=by
     unfold look;rw [hst];simp only
     rw [if_neg (fun hany=>hm (by
      obtain ⟨b,h1,h2⟩:=List.any_eq_true.1 hany;unfold pz
      exact List.mem_map.2 ⟨b,h1,by simpa using h2⟩))]
    rw [L87 hl hm,bS9,if_pos vi9,b9k (by rw [K81]; simp only [List.length_cons,List.length_nil]; omega),bS9];have hpz:pz L++[q]=pz (look (stS s e) L a k):=by rw [hlk]; unfold pz; simp
    rw [hpz,K81];exact rule L.length (q,a.2++[k]) (by rw [hlk]; simp) rfl (by rw [hlk]; simp; omega)
 ·obtain ⟨P,R⟩:=x;obtain ⟨L,hP,hi,h⟩:=hI;simp only at hP h;subst hP;refine ⟨.inl (pz L,l61,R),?_,.inr ⟨L,R,rfl,hi,h.next⟩⟩;unfold L49;show (if decide (((9:Nat):Int)<9) then _ else _)=_
  rw [if_neg vi9]
theorem M2l {z:Pose} (hzf:l64 s (c.Edges.1,c.Edges.2.1,c.Edges.2.2) z=true) :
  ∃ b,b0w (L5l s c) ([z],[],[],0)=some b/\(b = .inr true\/∃ L R,b = .inl (pz L,x42 L.length,R)/\Base s (c.Edges.1,c.Edges.2.1,c.Edges.2.2) z L.length 0 L R):=by
 have h0:Base s (c.Edges.1,c.Edges.2.1,c.Edges.2.2) z 0 0 [(z,[])] []:=by
  refine ⟨J3e z,fun p hp=>?_,fun r hr=>by simp at hr,fun j y a q hj=>by omega,by simp,by simp⟩;have:p=z:=by simpa [pz] using hp
  rw [this]; exact hzf
 refine j7u (f:=L5l s c) 13 (fun (x:List Pose × List State × List Rule) k=>(x.1,x.2.1,x.2.2,k)) (fun k x=>∃ L,x.1=pz L/\x.2.1=x42 k/\k<=L.length/\Base s (c.Edges.1,c.Edges.2.1,c.Edges.2.2) z k 0 L x.2.2) (fun b=>b = .inr true\/∃ L R,b = .inl (pz L,x42 L.length,R)/\Base s (c.Edges.1,c.Edges.2.1,c.Edges.2.2) z L.length 0 L R) (fun x k hk hI=>?_) (fun x hI=>?_) (s:=([z],[],[])) 0 (Nat.zero_le _) ⟨[(z,[])],rfl,rfl,by simp,h0⟩
 ·obtain ⟨P,S,R⟩:=x;obtain ⟨L,hP,hS,hkl,h⟩:=hI;simp only at hP hS h;subst hP hS;have hl:=h.l1;unfold L5l;show (∃ s',(if decide ((k:Int)<(((pz L).length:Nat):Int)) then _ else _)=_/\_)\/∃ b,(if decide ((k:Int)<(((pz L).length:Nat):Int)) then _ else _)=_/\_
  by_cases hlt:k<L.length
  ·rw [if_pos (decide_eq_true (by rw [K81]; omega)),J37 k vg9,bS9,b9k (by rw [J1b]; simp only [List.length_cons,List.length_nil]; omega),bS9,<- J4r];obtain ⟨b,hb,hB⟩:=M2d hok hme (l61:=x42 (k+1)) hlt h;rw [hb,bS9];rcases hB with rfl|⟨L',R',rfl,hil,hB⟩
   ·exact .inr ⟨_,rfl,.inl rfl⟩
   ·refine .inl ⟨(pz L',x42 (k+1),R'),?_,L',rfl,rfl,hil,hB⟩;show L5n (k:Int) (pz L') (x42 (k+1)) R'=_
    unfold L5n;rw [b3t (n:=(k:Int)+1) vg9 vg9]
  ·have e:k=L.length:=by omega
   subst e;rw [if_neg (by rw [K81]; simp)];exact .inr ⟨_,rfl,.inr ⟨L,R,rfl,h⟩⟩
 ·obtain ⟨L,_,_,hkl,h⟩:=hI;have:=h.l1;omega
end
end
end Go.Nw.YM
namespace Go.Nw.YM
open Go.Nw.Tp5
noncomputable section
def mCr (N:Nat) (R:List Rule):Machine:=Machine.mk l57 [] [] (x42 N) R
theorem J39 {N:Nat} {R:List Rule}:b3g (mCr N R)=l57++(List.range N).map pn:=by
 unfold b3g mCr x42;simp [Function.comp_def]
theorem J00 {N:Nat} {R:List Rule} (h12:N<=12):(b3g (mCr N R)).Sublist full:=by
 rw [J39];unfold full;exact (List.Sublist.refl _).append ((List.range_sublist.2 h12).map _)
theorem J4a {N:Nat} {R:List Rule} (h12:N<=12):¬ c5c (b3g (mCr N R)):=by
 rintro ⟨k,x,hx,hb|hb⟩
 ·have hm:=(J00 (R:=R) h12).subset (mG9 hx)
  exact hb (J1x (List.all_eq_true.1 J1l x hm))
 ·have hn:=J3h.sublist (J00 (R:=R) h12)
  obtain ⟨j,hj⟩:=b1d.1 hb;rw [List.getElem?_take] at hj;split at hj
  ·rename_i hlt;have h1:=b1k hx; have h2:=b1k hj
   have := List.pairwise_iff_getElem.1 hn j k h2 h1 hlt;rw [gG9 h1] at hx;rw [gG9 h2] at hj;exact this ((Option.some.inj hj).trans (Option.some.inj hx).symm)
  ·cases hj
theorem J4b {N:Nat} {R:List Rule} (h12:N<=12):∀ n∈b3g (mCr N R),n.size<=maxLen:=fun n hn=>by
 have hm:=(J00 (R:=R) h12).subset hn;have:=(J1x (List.all_eq_true.1 J1l n hm)).1;simp only [maxLen]; omega
def fC (i:Nat):Place:=⟨i,(0,0)⟩
theorem M0z {p q:Nat} (h:fC p=fC q):p=q:=by
 have := (Place.mk.inj h).1;omega
def idx (L:List (Pose × List Nat)) (q:Pose):Nat:=((L4c (pz L) q).getD 0).toNat
def stI (s:Shaft) (e:V3) (L:List (Pose × List Nat)) (i x:Nat):Option Nat:=(L[i]?).bind fun a=>(stS s e a.1 x).map (idx L)
section
variable {s:Shaft} {e:V3} {z:Pose} {L:List (Pose × List Nat)} {R:List Rule} (h:Base s e z L.length 0 L R)
include h
theorem L45 {k:Nat} {a:Pose × List Nat} (ha:L[k]?=some a):idx L a.1=k:=by
 unfold idx;rw [L7p h.fd h.l1 ha];rfl
theorem J0d {r:Rule} (hr:r∈R):∃ (j y j2:Nat) (a b:Pose × List Nat),y<9/\L[j]?=some a/\L[j2]?=some b/\stS s e a.1 y=some b.1/\r=Rule.mk j j2 (x15 y) []:=by
 obtain ⟨j,y,j2,a,b,_,h2⟩:=h.lo r hr;exact ⟨j,y,j2,a,b,h2⟩
theorem M2g:OkM (mCr L.length R):=by
 have hsl:(mCr L.length R).States.length=L.length:=J1b _;have hil:(mCr L.length R).Inputs.length=4:=rfl;have l1:=h.l1;have l2:=h.l2;have l0:=b1k h.fd.z0;refine ⟨⟨by rw [hil]; omega,by show 0<=6; omega,by show 0<=2; omega,by rw [hsl]; omega,l2⟩,J4a l1,(fun c hc=>by cases hc),fun x hx=>?_,fun r hr=>?_⟩
 ·have hx:x∈x42 L.length:=hx
  unfold x42 at hx;obtain ⟨i,_,rfl⟩:=List.mem_map.1 hx;show (0:Int)<=0/\(0:Int)<2 ^ 0
  decide
 ·obtain ⟨j,y,j2,a,b,hy,ha,hb,_,rfl⟩:=J0d h hr;have h1:=b1k ha;have h2:=b1k hb;refine ⟨by rw [hsl]; show -1<=(j:Int)/\(j:Int)<_; omega,by rw [hsl]; unfold In; show 0<=(j2:Int)/\(j2:Int)<_; omega,?_,by simp,fun s hs=>by simp at hs⟩;show b2s _ _ (x15 y)
  unfold x15;refine ⟨by simp,fun t ht=>?_⟩;simp only [List.mem_singleton] at ht;subst ht;refine ⟨by simp,fun l hl=>?_⟩;obtain ⟨j,hj,rfl⟩:=List.mem_map.1 hl;rw [List.mem_range] at hj;exact .inl ⟨rfl,by rw [hil]; unfold In H9b; simp; omega,rfl⟩
theorem L7l {p x:Nat} (hx:x<16) {r:Rule} (hr:r∈R):b7e (mCr L.length R) (fC p) (x:Int) r=true ↔ r.When=x15 x/\r.From=p:=by
 obtain ⟨j,y,j2,a,b,hy,ha,hb,_,rfl⟩:=J0d h hr;have hne:¬ (j:Int) = -1:=by omega
 unfold b7e;rw [H9n hx vg9];have hst:(fC p).State=(p:Int):=rfl;rw [hst];simp only [hne,decide_false,Bool.false_or,Bool.and_eq_true,decide_eq_true_eq];constructor
 ·rintro ⟨h7,rfl⟩; exact ⟨rfl,h7⟩
 ·rintro ⟨h7,h8⟩;exact ⟨h8,(D20 (m:=mCr L.length R) (p:=zero) vg9 vg9 h7).symm⟩
theorem M2x {p x:Nat} {a:Pose × List Nat} {q:Pose} (ha:L[p]?=some a) (hq:stS s e a.1 x=some q) (hx:x<9) {r:Rule} (hr:r∈R) (hm:b7e (mCr L.length R) (fC p) (x:Int) r=true):r.To=(idx L q:Int)/\r.Sets=[]:=by
 have hm:=(L7l h vg9 hr).1 hm;obtain ⟨j,y,j2,a',b,hy,ha',hb,hst,rfl⟩:=J0d h hr;have e1:y=x:=D20 (m:=mCr L.length R) (p:=zero) vg9 vg9 hm.1;have e2:j=p:=by have:(j:Int)=p:=hm.2; omega
 subst e1 e2;rw [ha] at ha'; cases ha';rw [hq] at hst; cases hst;exact ⟨by rw [L45 h hb],rfl⟩
theorem J4u (p x q:Nat) (hs:stI s e L p x=some q):stC (mCr L.length R) [] (fun x=>x) (fC p) x=some (fC q):=by
 unfold stI at hs;obtain ⟨a,ha,hs⟩:=bE9.1 hs;obtain ⟨t,ht,rfl⟩:=mE9.1 hs
 have hx:x<9:=by
  refine Classical.byContradiction fun hx=>?_;rw [L6l a.1 x vg9] at ht; cases ht
 have hx2:x<2 ^ (mCr L.length R).Inputs.length:=by show x<2 ^ 4; omega
 unfold stC;rw [if_pos ⟨hx2,rfl⟩];congr 1;obtain ⟨j2,b,hb,hbt,hr⟩:=h.hi p x a t (.inl (b1k ha)) ha ht;unfold nxt;rw [show (mCr L.length R).Rules=R from rfl]
 cases hfind:R.find? (b7e (mCr L.length R) (fC p) (x:Int)) with
 | none =>
  have := List.find?_eq_none.1 hfind _ hr;exact absurd ((L7l h vg9 hr).2 ⟨rfl,rfl⟩) this
 | some r =>
  obtain ⟨h1,h2⟩:=M2x h ha ht hx (List.mem_of_find?_eq_some hfind) (List.find?_some hfind);simp only [h1,h2,List.foldl_nil];rfl
theorem J4t (p x:Nat) (r:Place) (hs:stC (mCr L.length R) [] (fun x=>x) (fC p) x=some r):r=fC p\/∃ q,r=fC q/\stI s e L p x=some q:=by
 unfold stC at hs;split at hs
 case isFalse=>cases hs
 rename_i hx;have hx:x<16:=hx.1
 cases hs
 unfold nxt;rw [show (mCr L.length R).Rules=R from rfl]
 cases hfind:R.find? (b7e (mCr L.length R) (fC p) (x:Int)) with
 | none=>exact .inl rfl
 | some r =>
  have hr:=List.mem_of_find?_eq_some hfind;have hm:=(L7l h hx hr).1 (List.find?_some hfind);obtain ⟨j,y,j2,a,b,hy,ha,hb,hst,rfl⟩:=J0d h hr;have e1:y=x:=D20 (m:=mCr L.length R) (p:=zero) vg9 vg9 hm.1;have e2:j=p:=by have:(j:Int)=p:=hm.2; omega
  subst e1 e2;refine .inr ⟨j2,rfl,?_⟩;unfold stI;rw [ha,bS9,hst,Option.map_some,L45 h hb]
theorem L65:∀ (l:List Nat) (i:Nat) (a:Pose × List Nat),L[i]?=some a->gos (stI s e L) i l=(gos (stS s e) a.1 l).map (idx L)
 | [],i,a,ha=>by
  show some i=some (idx L a.1)
  rw [L45 h ha]
 | x :: l,i,a,ha=>by
  simp only [gos];have:stI s e L i x=(stS s e a.1 x).map (idx L):=by unfold stI; rw [ha]; rfl
  rw [this]
  cases hst:stS s e a.1 x with
  | none=>rfl
  | some q =>
   obtain ⟨j2,b,hb,rfl,_⟩:=h.hi i x a q (.inl (b1k ha)) ha hst;simp only [Option.map_some,bS9];rw [L45 h hb];exact L65 l j2 b hb
theorem L80 {k:Nat} {a:Pose × List Nat} (ha:L[k]?=some a):H85 (stS s e) z a.1 a.2/\H85 (stI s e L) 0 k a.2:=by
 have hl:=J3b h.fd (Nat.le_refl _) (mG9 ha);refine ⟨hl,?_,fun r hr=>?_⟩
 ·rw [L65 h _ 0 _ h.fd.z0,hl.1,Option.map_some,L45 h ha]
 ·rw [L65 h _ 0 _ h.fd.z0] at hr;obtain ⟨q,h1,h2⟩:=mE9.1 hr;obtain ⟨b,hb,rfl,_⟩:=J1j h.fd (Nat.le_refl _) r q h1;obtain ⟨j,hj⟩:=b1d.1 hb;rw [L45 h hj] at h2;subst h2;rw [ha] at hj; cases hj;exact hl.2 r h1
end
def L4m (k:Int):List (List Literal):=[[Literal.mk 3 k 0 false]]
theorem L84 {m:Machine} {q:Place} {k:Int}:b46 m q 0 (L4m k)=decide (q.State=k):=by
 unfold b46 L4m lit b77 b6w;simp only [Int.reduceEq,decide_false,fT9,if_false,decide_true,if_true,List.any_cons,List.any_nil,List.all_cons,List.all_nil,Bool.or_false,Bool.and_true,Option.getD_some]
 cases decide (q.State=k) <;> rfl
theorem L92 {s:Shaft} {e:V3} {z:Pose} {L:List (Pose × List Nat)} {R:List Rule} (h:Base s e z L.length 0 L R) {k:Nat} {a:Pose × List Nat} (ha:L[k]?=some a):c2e (mCr L.length R) [] (L4m k)=some (c52 a.2,true,0)/\a.2.length<=768:=by
 have hk:=b1k ha
 obtain ⟨b,hb,hb0,hB⟩:=J2g (M2g h) (J4b h.l1) (never:=L4m k) ⟨by simp [L4m],fun t ht=>by
  simp only [L4m,List.mem_singleton] at ht;subst ht;refine ⟨by simp,fun l hl=>?_⟩;simp only [List.mem_singleton] at hl;subst hl
  exact .inr (.inr (.inl ⟨rfl,rfl,by show In (k:Int) (x42 L.length).length; rw [J1b]; unfold In; omega,rfl⟩))⟩
 have hz:zero=fC 0:=rfl;obtain ⟨_,hl⟩:=L80 h ha;have up:=J4u h;have down:=J4t h;rcases hB with ⟨h1,h2,hno⟩|⟨q,r,h1,h2,h3,hr,hq⟩
 ·exfalso;have h3:=J1d fC up hl.1;rw [<- hz] at h3;have:=hno _ _ h3;rw [L84,decide_eq_false_iff_not] at this;exact this rfl
 ·rw [L84] at hq;have hq:=of_decide_eq_true hq;have hr1:=hr.1;rw [hz] at hr1 hr;obtain ⟨q',l',rfl,h4,_⟩:=J1c fC down hr1;have e:(q':Int)=k:=hq;have e:q'=k:=by omega
  subst e;have e:=J36 fC (fun p q=>M0z) up down hl hr;subst e;refine ⟨?_,h3⟩;rw [hb];obtain ⟨b1,b2,b3⟩:=b;simp only at h1 h2 hb0;rw [h1,h2,hb0]
theorem M12 {a:List Int × Int} {b:List Int × Bool × Int} (e:b.1=a.1) (hl:b.1.length<=maxLen):b0w (L5a a b) 0=some (.inl ()):=by
 have := b4h (f:=L5a a b) b.1.length (fun (_:Unit) k=>k) (fun _=>()) (Sum.inl ()) (s0:=()) rfl (fun k hk=>by
  obtain ⟨x,hx⟩:=b3b hk;unfold L5a;have h':(k:Int)<(b.1.length:Int):=by omega
  simp only [h',decide_true,if_true,b1h hx,<- e,bS9,not_true_eq_false,decide_false,fT9,if_false]
  rw [b2r hk hl]) (by
  unfold L5a
  simp)
 exact this
theorem M0t [Bd] (hme:L1k=some true) (s:Shaft) (c:l09_Crate) (to_:Pose) (hos:L55 s) (_:L56 c) (_:L5e to_):L5k s c to_=some true:=by
 have hw:s.Walls.length<=maxLen:=Nat.le_trans hos.2.1 Bd.le;obtain ⟨y,hy,hY⟩:=M2q s (c.Edges.1,c.Edges.2.1,c.Edges.2.2) hw;unfold L5k;rw [hy];by_cases hfar:L5i s=true
 ·rw [if_pos hfar,bS9,if_pos rfl,hme]; rfl
 rw [if_neg hfar,bS9,bS9];by_cases h0:y=0
 case neg=>rw [if_pos (decide_eq_true h0),hme]; rfl
 rw [if_neg (by simp [h0])];subst h0;have hok:=hY rfl;have eP:Pose.mk (c.Pose.At.1,c.Pose.At.2.1,c.Pose.At.2.2) c.Pose.Turn=c.Pose:=rfl;simp only [eP];rw [L8b hok hy,L8b hok hy,bS9,bS9];simp only;by_cases hf:((!(l64 s (c.Edges.1,c.Edges.2.1,c.Edges.2.2) c.Pose)) || (!(l64 s (c.Edges.1,c.Edges.2.1,c.Edges.2.2) to_)))=true
 ·rw [if_pos hf,hme]; rfl
 rw [if_neg hf];simp only [Bool.or_eq_true,not_or,Bool.not_eq_true',Bool.not_eq_false] at hf;obtain ⟨hf1,hf2⟩:=hf;obtain ⟨b,hb,hB⟩:=M2l hok hme hf1;rw [hb,bS9];rcases hB with rfl|⟨L,R,rfl,h⟩
 ·rfl
 show L5m s c to_ (pz L) (x42 L.length) R=some true
 unfold L5m;rw [eP]
 have hcar:L5u s (c.Edges.1,c.Edges.2.1,c.Edges.2.2) c.Pose to_=some (K62 s (c.Edges.1,c.Edges.2.1,c.Edges.2.2) c.Pose to_):=by
  unfold L5u;rw [if_pos ⟨hok,hf1,hf2⟩]
 rw [hcar,bS9];by_cases hm:to_∈pz L
 ·unfold pz at hm;obtain ⟨a,ham,rfl⟩:=List.mem_map.1 hm;obtain ⟨k,ha⟩:=b1d.1 ham;have hk:=b1k ha;rw [L7p h.fd h.l1 ha,bS9,if_neg (by rw [K81]; simp; omega)];obtain ⟨hl,_⟩:=L80 h ha;obtain ⟨hbr,hle⟩:=L92 h ha;unfold mCr L4m at hbr;rw [hbr,bS9,L8h hl];have hin:nI a.2=c52 a.2:=rfl;rw [hin];simp only [not_true_eq_false,decide_false,Bool.false_or,Bool.not_true,fT9,if_false];rw [M12 (a:=(c52 a.2,0)) (b:=(c52 a.2,true,0)) rfl (b1o (by rw [g0o]; omega)),bS9];unfold L6c;rw [hme]; rfl
 ·rw [L87 h.l1 hm,bS9,if_pos vi9]
  have hno:∀ w,¬ H85 (stS s (c.Edges.1,c.Edges.2.1,c.Edges.2.2)) c.Pose to_ w:=fun w hw=>by
   obtain ⟨d,hd,rfl,_⟩:=J1j h.fd (Nat.le_refl _) w to_ hw.1;exact hm (by unfold pz; exact List.mem_map.2 ⟨d,hd,rfl⟩)
  rw [L8i hno];simp only [decide_true,if_true,hme,bS9]
end
end Go.Nw.YM
