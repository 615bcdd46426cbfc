/- What the printed models are made of: checked reads, loops; and their rules. -/
import Derived.Test.YtojneiildpnpiaaNwDone
set_option linter.all false
namespace Go.Nw
inductive Out (σ β:Type) where
 | nx (s:σ)
 | br (b:β)
def b4g {σ β:Type} (f:σ->Option (Out σ β)):Nat->σ->Option β
 | 0,_=>none
 | n+1,s=>match f s with
  | none=>none
  | some (.br b)=>some b
  | some (.nx s')=>b4g f n s'
theorem d37 {σ β:Type} {f:σ->Option (Out σ β)}:∀ {n m:Nat} {s:σ} {b:β},b4g f n s=some b->n<=m->b4g f m s=some b
 | 0,_,_,_,h,_=>by simp [b4g] at h
 | n+1,0,_,_,_,h=>by omega
 | n+1,m+1,s,b,h,hl=>by
  simp only [b4g] at h ⊢
  split at h
  ·exact h
  ·exact h
  ·exact d37 h (by omega)
open Classical in
noncomputable def b0w {σ β:Type} (f:σ->Option (Out σ β)) (s:σ):Option β :=
 if h:∃ b n,b4g f n s=some b then some (Classical.choose h) else none
theorem d36 {σ β:Type} {f:σ->Option (Out σ β)} {s:σ} {b:β} {n:Nat} (h:b4g f n s=some b):b0w f s=some b:=by
 unfold b0w
 have hx:∃ b n,b4g f n s=some b:=⟨b,n,h⟩
 rw [dif_pos hx]
 obtain ⟨m,hm⟩:=Classical.choose_spec hx
 have h1:=d37 h (Nat.le_max_left n m)
 have h2:=d37 hm (Nat.le_max_right n m)
 rw [h1] at h2
 exact h2.symm
theorem d35 {σ β:Type} {f:σ->Option (Out σ β)} {s:σ} {b:β} (h:b0w f s=some b):∃ n,b4g f n s=some b:=by
 unfold b0w at h
 split at h
 ·rename_i hx
  obtain ⟨n,hn⟩:=Classical.choose_spec hx
  cases h
  exact ⟨n,hn⟩
 ·cases h
theorem w91 {σ β:Type} {f:σ->Option (Out σ β)} {s s':σ} (h:f s=some (.nx s')):b0w f s=b0w f s':=by
 cases hb:b0w f s' with
 | some b =>
  obtain ⟨n,hn⟩:=d35 hb
  exact d36 (n:=n+1) (by simp only [b4g,h]; exact hn)
 | none =>
  cases hc:b0w f s with
  | none=>rfl
  | some b =>
   obtain ⟨n,hn⟩:=d35 hc
   cases n with
   | zero=>simp [b4g] at hn
   | succ n =>
    simp only [b4g,h] at hn
    rw [d36 hn] at hb
    cases hb
theorem b3d {σ β:Type} {f:σ->Option (Out σ β)} {s:σ} {b:β} (h:f s=some (.br b)):b0w f s=some b :=
 d36 (n:=1) (by simp only [b4g,h])
theorem b1j {O:Orac} {a:XCode} {Q:XExit->Slots->Heap->Prop} {t:Slots} {h:Heap} {σ β:Type} {f:σ->Option (Out σ β)} {s0:σ} {b:β}
  (hm : b0w f s0=some b) (Rel:σ->Slots->Heap->Prop) (h0:Rel s0 t h)
  (step : ∀ s o t h,Rel s t h->f s=some o->(∀ b',o = .br b'->b'=b)->cw O a (b6r (fun t' h'=>∃ s',o = .nx s'/\Rel s' t' h') Q) t h):cw O (.loop a) Q t h:=by
 obtain ⟨n,hn⟩:=d35 hm
 refine c2k (fun k t h=>∃ s,b4g f k s=some b/\Rel s t h) n ⟨s0,hn,h0⟩ ?_
 rintro k t h ⟨s,hs,hr⟩
 cases k with
 | zero=>simp [b4g] at hs
 | succ k =>
  simp only [b4g] at hs
  cases ho:f s with
  | none=>rw [ho] at hs; cases hs
  | some o =>
   rw [ho] at hs
   refine d64 ?_ (step s o t h hr ho ?_)
   ·intro e t' h' hq
    cases e with
    | normal =>
     obtain ⟨s',rfl,hr'⟩:=hq
     exact ⟨k,by omega,s',hs,hr'⟩
    | exit id=>exact hq
    | ret=>exact hq
   ·rintro b' rfl
    simp only [iE9] at hs
    exact hs
theorem b0g {α β:Type} {x:Option α} {f:α->Option β} {b:β} (h:x.bind f=some b):∃ a,x=some a/\f a=some b:=bE9.1 h
def get {α:Type} (l:List α) (i:Int):Option α:=if 0<=i then l[i.toNat]? else none
theorem b05 {α:Type} {l:List α} {i:Int} {x:α} (h:get l i=some x):0<=i:=by
 unfold get at h; split at h
 ·assumption
 ·cases h
theorem b8j {α:Type} {l:List α} {i:Int} {x:α} (h:get l i=some x):l[i.toNat]?=some x:=by
 unfold get at h; split at h
 ·exact h
 ·cases h
theorem b06 {α:Type} {l:List α} {i:Int} {x:α} (h:get l i=some x):i<l.length:=by
 have h1:=b8j h
 have h2:=b05 h
 have := (gS9.1 h1).1
 omega
theorem b08 {α:Type} {l:List α} {i:Int} {x:α} {k:α->Prop} (h:get l i=some x):@c7e α l i ⟨k⟩=k x:=by
 show s3s l i k=k x
 simp only [s3s,b8j h,iE9]
 apply propext; constructor
 ·rintro ⟨a,_,rfl,hk⟩; exact hk
 ·exact fun hk=>⟨x,b05 h,rfl,hk⟩
abbrev wr (n:Int):Int:=IntKind.i64.wrap n
theorem b3t {n:Int} (h1 : -9223372036854775808<=n) (h2:n<9223372036854775808):wr n=n:=g3z h1 h2
def eI (x:Int):List AV:=[I x]
def eB (x:Bool):List AV:=[B x]
attribute [go_sem] eI eB
theorem N5c (x:Int):∀ c∈eI x,Frz c:=by simp [eI,N5b]
end Go.Nw
namespace Go.Nw
theorem b1c {O:Orac} {c:XCode} {Q:XExit->Slots->Heap->Prop} {t:Slots} {h:Heap} (P:Slots->Heap->Prop) (hp:P t h) (hw:∀ t h,P t h->cw O c Q t h):cw O c Q t h:=hw t h hp
theorem b0e (x:Value):Frz (.v x):=.v x
theorem b0j:∀ c∈([]:List AV),Frz c:=by simp
theorem b0a {a:AV} {l:List AV} (ha:Frz a) (hl:∀ c∈l,Frz c):∀ c∈a :: l,Frz c:=by
 intro c hc
 rcases List.mem_cons.1 hc with rfl|h
 ·exact ha
 ·exact hl c h
theorem b1t (x:Int):∀ c∈eI x,Frz c:=b0a (b0e _) b0j
end Go.Nw
