/- Plain laws on the models. -/
import Derived.Test.YtgkhgpphjhefaaaDoorNwPlain
import Derived.Test.YtgkhgpphjhefaaaDoorP2
import Derived.Test.YtgkhgpphjhefaaaDoorKUM1
import Derived.Test.YtgkhgpphjhefaaaDoorNwLast
set_option linter.all false
namespace Go.Nw
theorem j7u {σ τ β:Type} {f:τ->Option (Out τ β)} (n:Nat) (mk:σ->Int->τ) (Inv:Nat->σ->Prop) (P:β->Prop)
  (step : ∀ s (k:Nat),k<n->Inv k s->(∃ s',f (mk s k)=some (.nx (mk s' ((k:Int)+1)))/\Inv (k+1) s')\/∃ b,f (mk s k)=some (.br b)/\P b)
  (fin : ∀ s,Inv n s->∃ b,f (mk s n)=some (.br b)/\P b) {s:σ} (k0:Nat) (hk0:k0<=n) (h0:Inv k0 s):∃ b,b0w f (mk s k0)=some b/\P b:=by
 have key:∀ (d k:Nat) (s:σ),n - k=d->k<=n->Inv k s->∃ b,b0w f (mk s k)=some b/\P b:=by
  intro d
  induction d with
  | zero =>
   intro k s hd hk hi
   have : k=n:=by omega
   subst this
   obtain ⟨b,h1,h2⟩:=fin s hi
   exact ⟨b,b3d h1,h2⟩
  | succ d ih =>
   intro k s hd hk hi
   rcases step s k (by omega) hi with ⟨s',h1,h2⟩|⟨b,h1,h2⟩
   ·rw [w91 h1]
    exact ih (k+1) s' (by omega) (by omega) h2
   ·exact ⟨b,b3d h1,h2⟩
 exact key _ k0 s rfl hk0 h0
theorem s9p (a:Nat) (ha:a<18446744073709551616):(BitVec.ofInt 64 (a:Int)).toNat=a:=by
 rw [BitVec.ofInt_natCast,BitVec.toNat_ofNat]; exact Nat.mod_eq_of_lt (by simpa using ha)
theorem u4f {a:Nat} (ha:a<9223372036854775808):IntKind.wrap .i64 (a:Int)=a:=g3z (by omega) (by omega)
theorem u6m {a b:Nat} (ha:a<9223372036854775808) (hb:b<9223372036854775808):b6y (a:Int) (b:Int)=((a &&& b:Nat):Int):=by
 show IntKind.wrap .i64 ((BitVec.ofInt 64 (a:Int) &&& BitVec.ofInt 64 (b:Int)).toNat:Int)=_
 rw [BitVec.toNat_and,s9p a (by omega),s9p b (by omega)]
 exact u4f (Nat.lt_of_le_of_lt Nat.and_le_left ha)
theorem u22 {a b:Nat} (ha:a<9223372036854775808) (hb:b<9223372036854775808):bor (a:Int) (b:Int)=((a ||| b:Nat):Int):=by
 show IntKind.wrap .i64 ((BitVec.ofInt 64 (a:Int) ||| BitVec.ofInt 64 (b:Int)).toNat:Int)=_
 rw [BitVec.toNat_or,s9p a (by omega),s9p b (by omega)]
 exact u4f (show _<2 ^ 63 from Nat.or_lt_two_pow ha hb)
theorem u9n {a y:Nat} (hy:y<=64):d45 .i64 (a:Int) (y:Int)=((a >>> y:Nat):Int):=by
 have : Nat.min (y:Int).toNat IntKind.i64.bits=y:=Nat.min_eq_left (by rw [show IntKind.i64.bits=64 from rfl]; omega)
 unfold d45
 rw [this,Nat.shiftRight_eq_div_pow]
 have h2:(2:Int) ^ y=((2 ^ y:Nat):Int):=by simp
 rw [h2,Int.fdiv_eq_ediv_of_nonneg _ (Int.natCast_nonneg _)]; rfl
theorem u6r {a y:Nat} (ha:a<9223372036854775808) (hy:y<=64):b6y (d45 .i64 (a:Int) (y:Int)) 1=if a.testBit y then 1 else 0:=by
 rw [u9n hy]
 have h1:a >>> y<9223372036854775808:=by rw [Nat.shiftRight_eq_div_pow]; exact Nat.lt_of_le_of_lt (Nat.div_le_self _ _) ha
 have := u6m h1 (show (1:Nat)<9223372036854775808 by omega)
 rw [show ((1:Nat):Int)=1 from rfl] at this
 rw [this,Nat.testBit,Nat.and_comm]
 have h2:1 &&& (a >>> y)=(a >>> y) % 2:=by rw [Nat.and_comm,Nat.and_one_is_mod]
 rw [h2]
 have h3:(a >>> y) % 2=0\/(a >>> y) % 2=1:=by omega
 rcases h3 with h3|h3 <;> rw [h3] <;> rfl
theorem u1e {y:Nat} (hy:y<=62):shl .i64 1 (y:Int)=some ((2 ^ y:Nat):Int):=by
 rw [l5j (by omega) (by omega)]; simp
theorem u4e {y:Nat} (hy:y<18446744073709551616):IntKind.wrap .u64 (y:Int)=y:=c9p (by omega) (by omega)
theorem u3z {y:Nat} (hy:y<=62):2 ^ y<9223372036854775808:=by
 have := Nat.pow_le_pow_right (n:=2) (by omega) hy
 omega
def Sub (a b:Nat):Prop:=∀ i,a.testBit i=true->b.testBit i=true
theorem sub_zero (a:Nat):Sub 0 a:=fun i h=>by simp at h
end Go.Nw
namespace Go.Nw
theorem b1h {α:Type} {l:List α} {k:Nat} {x:α} (h:l[k]?=some x):get l (k:Int)=some x:=by
 unfold get; rw [if_pos (by omega)]; simpa using h
theorem b1k {α:Type} {l:List α} {k:Nat} {x:α} (h:l[k]?=some x):k<l.length:=(gS9.1 h).1
theorem b3b {α:Type} {l:List α} {k:Nat} (h:k<l.length):∃ x,l[k]?=some x:=⟨_,gG9 h⟩
theorem c3v {α β:Type} {f:Int->Option (Out Int β)} (l:List α) (bad:Nat->α->Prop) (e u:β)
  (bstep : ∀ k x,l[k]?=some x->bad k x->f (k:Int)=some (.br e)) (nstep:∀ k x,l[k]?=some x->¬ bad k x->f (k:Int)=some (.nx ((k:Int)+1)))
  (fin : f (l.length:Int)=some (.br u)):((∀ k x,l[k]?=some x->¬ bad k x)/\b0w f 0=some u)\/((∃ k x,l[k]?=some x/\bad k x)/\b0w f 0=some e):=by
 have key:∀ (d k:Nat),l.length - k=d->k<=l.length->(∀ j x,j<k->l[j]?=some x->¬ bad j x) ->
   ((∀ k x,l[k]?=some x->¬ bad k x)/\b0w f (k:Int)=some u)\/((∃ k x,l[k]?=some x/\bad k x)/\b0w f (k:Int)=some e):=by
  intro d
  induction d with
  | zero =>
   intro k hd hk hb
   have : k=l.length:=by omega
   subst this
   exact .inl ⟨fun j x hx=>hb j x (b1k hx) hx,b3d fin⟩
  | succ d ih =>
   intro k hd hk hb
   obtain ⟨x,hx⟩:=b3b (show k<l.length by omega)
   by_cases h:bad k x
   ·exact .inr ⟨⟨k,x,hx,h⟩,b3d (bstep k x hx h)⟩
   ·rw [w91 (nstep k x hx h)]
    refine ih (k+1) (by omega) (by omega) fun j y hj hy=>?_
    by_cases e:j=k
    ·subst e; rw [hx] at hy; cases hy; exact h
    ·exact hb j y (by omega) hy
 exact key l.length 0 (by omega) (by omega) fun j x hj=>by omega
theorem j7y {σ τ β:Type} {f:τ->Option (Out τ β)} (n:Nat) (mk:σ->Int->τ) (S:Nat->σ) (b:β)
  (step : ∀ k:Nat,k<n->f (mk (S k) k)=some (.nx (mk (S (k+1)) ((k:Int)+1)))) (fin:f (mk (S n) n)=some (.br b)) (k0:Nat) (hk0:k0<=n):b0w f (mk (S k0) k0)=some b:=by
 obtain ⟨b',h1,h2⟩:=j7u (f:=f) n mk (fun k s=>s=S k) (fun x=>x=b) (fun s k hk hs=>by
  subst hs; exact .inl ⟨_,step k hk,rfl⟩) (fun s hs=>by subst hs; exact ⟨b,fin,rfl⟩) k0 hk0 rfl
 rw [h1,h2]
theorem j7z {σ τ β:Type} {f:τ->Option (Out τ β)} (n:Nat) (mk:σ->Int->τ) (S:Nat->σ) (b:β)
  (step : ∀ k:Nat,k<n->f (mk (S k) k)=some (.nx (mk (S (k+1)) ((k:Int)+1)))) (fin:f (mk (S n) n)=some (.br b)):b0w f (mk (S 0) 0)=some b :=
 j7y n mk S b step fin 0 (Nat.zero_le _)
theorem b4h {σ τ β:Type} {f:τ->Option (Out τ β)} (n:Nat) (mk:σ->Int->τ) (S:Nat->σ) (b:β) {s0:σ} (h0:s0=S 0)
  (step : ∀ k:Nat,k<n->f (mk (S k) k)=some (.nx (mk (S (k+1)) ((k:Int)+1)))) (fin:f (mk (S n) n)=some (.br b)):b0w f (mk s0 0)=some b:=by
 subst h0; exact j7z n mk S b step fin
theorem g1j {α σ τ β:Type} {f:τ->Option (Out τ β)} (l:List α) (mk:σ->Int->τ) (S:Nat->σ) (bad:Nat->α->Prop) (e u:β)
  (bstep : ∀ k x,(∀ j y,j<k->l[j]?=some y->¬ bad j y)->l[k]?=some x->bad k x->f (mk (S k) k)=some (.br e))
  (nstep : ∀ k x,(∀ j y,j<k->l[j]?=some y->¬ bad j y)->l[k]?=some x->¬ bad k x->f (mk (S k) k)=some (.nx (mk (S (k+1)) ((k:Int)+1))))
  (fin : f (mk (S l.length) l.length)=some (.br u)) {s0:σ} (h0:s0=S 0):((∀ k x,l[k]?=some x->¬ bad k x)/\b0w f (mk s0 0)=some u)\/((∃ k x,l[k]?=some x/\bad k x)/\b0w f (mk s0 0)=some e):=by
 subst h0
 have key:∀ (d k:Nat),l.length - k=d->k<=l.length->(∀ j x,j<k->l[j]?=some x->¬ bad j x) ->
   ((∀ k x,l[k]?=some x->¬ bad k x)/\b0w f (mk (S k) k)=some u)\/((∃ k x,l[k]?=some x/\bad k x)/\b0w f (mk (S k) k)=some e):=by
  intro d
  induction d with
  | zero =>
   intro k hd hk hb
   have : k=l.length:=by omega
   subst this
   exact .inl ⟨fun j x hx=>hb j x (b1k hx) hx,b3d fin⟩
  | succ d ih =>
   intro k hd hk hb
   obtain ⟨x,hx⟩:=b3b (show k<l.length by omega)
   by_cases h:bad k x
   ·exact .inr ⟨⟨k,x,hx,h⟩,b3d (bstep k x hb hx h)⟩
   ·rw [w91 (nstep k x hb hx h)]
    refine ih (k+1) (by omega) (by omega) fun j y hj hy=>?_
    by_cases e:j=k
    ·subst e; rw [hx] at hy; cases hy; exact h
    ·exact hb j y (by omega) hy
 exact key l.length 0 (by omega) (by omega) fun j x hj=>by omega
theorem b2r {k n:Nat} (h:k<n) (hn:n<=maxLen):wr ((k:Int)+1)=(k:Int)+1:=b3t (by omega) (by simp only [maxLen] at hn; omega)
theorem x0f {b:Bool} (h:¬ b=true):b=false:=by cases b <;> simp_all
theorem c1n {n:Nat} (hn:n<=maxLen):wr ((n:Int) - 1)=(n:Int) - 1:=b3t (by simp only [maxLen] at hn; omega) (by simp only [maxLen] at hn; omega)
def b6i {α:Type} (s:List α) (f:α->Option Bool):Int->Option (Out Int (Unit ⊕ Int)):=fun x =>
 if decide (x<(List.length s:Int)) then (get s x).bind fun a=>(f a).bind fun y=>if y then some (.br (.inr x)) else some (.nx (wr (x+1)))
 else some (.br (.inl ()))
theorem j4x {α:Type} {s:List α} {f:α->Option Bool} {p:α->Prop} (hl:s.length<=maxLen) (hf:∀ x∈s,∃ b,f x=some b/\(b=true ↔ p x)) :
  (∃ (k:Nat) (x:α),s[k]?=some x/\p x/\(∀ j y,j<k->s[j]?=some y->¬ p y)/\b0w (b6i s f) 0=some (.inr (k:Int)))\/((∀ x∈s,¬ p x)/\b0w (b6i s f) 0=some (.inl ())):=by
 have key:∀ (d k:Nat),s.length - k=d->k<=s.length->(∀ j y,j<k->s[j]?=some y->¬ p y) ->
   (∃ (k':Nat) (x:α),s[k']?=some x/\p x/\(∀ j y,j<k'->s[j]?=some y->¬ p y)/\b0w (b6i s f) (k:Int)=some (.inr (k':Int)))\/((∀ x∈s,¬ p x)/\b0w (b6i s f) (k:Int)=some (.inl ())):=by
  intro d
  induction d with
  | zero =>
   intro k hd hk hb
   have : k=s.length:=by omega
   subst this
   refine .inr ⟨fun x hx=>?_,b3d (by simp [b6i])⟩
   obtain ⟨j,hj,rfl⟩:=List.getElem_of_mem hx
   exact hb j _ hj (gG9 hj)
  | succ d ih =>
   intro k hd hk hb
   obtain ⟨x,hx⟩:=b3b (show k<s.length by omega)
   obtain ⟨b,hb1,hb2⟩:=hf x (mG9 hx)
   cases b with
   | true=>exact .inl ⟨k,x,hx,hb2.1 rfl,hb,b3d (by simp [b6i,b1h hx,hb1,b1k hx])⟩
   | false =>
    rw [w91 (s':=(k:Int)+1) (by simp [b6i,b1h hx,hb1,b1k hx,b2r (b1k hx) hl])]
    refine ih (k+1) (by omega) (by omega) fun j y hj hy=>?_
    by_cases e:j=k
    ·subst e; rw [hx] at hy; cases hy; exact fun hp=>by have:=hb2.2 hp; cases this
    ·exact hb j y (by omega) hy
 exact key s.length 0 (by omega) (by omega) fun j x hj=>by omega
theorem j40 {α:Type} {s:List α} {f:α->Option Bool} {p:α->Prop} {g:Option Int} (hg:g=(b0w (b6i s f) 0).bind fun|(.inl ())=>some (-1)|(.inr r')=>some r')
  (hl : s.length<=maxLen) (hf:∀ x∈s,∃ b,f x=some b/\(b=true ↔ p x)) :
  (∃ (k:Nat) (x:α),s[k]?=some x/\p x/\(∀ j y,j<k->s[j]?=some y->¬ p y)/\g=some (k:Int))\/((∀ x∈s,¬ p x)/\g=some (-1)):=by
 subst hg
 rcases j4x hl hf with ⟨k,x,h1,h2,h3,h4⟩|⟨h1,h2⟩
 ·exact .inl ⟨k,x,h1,h2,h3,by rw [h4]; rfl⟩
 ·exact .inr ⟨h1,by rw [h2]; rfl⟩
theorem G6l {α:Type} {s:List α} {f:α->Option Bool} {p:α->Prop} {g:Option Bool} (hg:g=((b0w (b6i s f) 0).bind fun|(.inl ())=>some (-1)|(.inr r')=>some r').bind fun y=>some (decide (0<=y)))
  (hl : s.length<=maxLen) (hf:∀ x∈s,∃ b,f x=some b/\(b=true ↔ p x)):∃ b,g=some b/\(b=true ↔ ∃ x∈s,p x):=by
 subst hg
 rcases j40 rfl hl hf with ⟨k,x,h1,h2,h3,h4⟩|⟨h1,h2⟩
 ·rw [h4]; exact ⟨_,rfl,by simp; exact ⟨x,mG9 h1,h2⟩⟩
 ·rw [h2]; exact ⟨_,rfl,by simp; exact h1⟩
def tab {α:Type} (n:Nat) (f:Nat->α):List α:=(List.range n).map f
def fill {α:Type} (n:Nat) (f:Nat->α) (z:α) (k:Nat):List α:=tab n fun i=>if i<k then f i else z
theorem b3y {α:Type} {n:Nat} {f:Nat->α}:(tab n f).length=n:=by simp [tab]
theorem c1l {α:Type} {n:Nat} {f:Nat->α} {i:Nat} (h:i<n):(tab n f)[i]?=some (f i):=by simp [tab,h]
theorem g3k {α:Type} {n:Nat} {f:Nat->α} {x:α} (h:x∈tab n f):∃ i,i<n/\x=f i:=by
 obtain ⟨i,hi,rfl⟩:=List.mem_map.1 h
 exact ⟨i,List.mem_range.1 hi,rfl⟩
end Go.Nw
namespace Go.Nw.UM
open Go.Nw.Tp2
set_option maxHeartbeats 4000000
theorem u7p {h:Heap} {v:AV} {l:List Int} (hv:K26 h v l):Fz h v (.fs 1 (List.map eI l)):=by
 rcases hv with ⟨rfl,rfl⟩|⟨id,rest,rfl,ho,_⟩
 ·exact .nil 1
 ·refine .rs id 0 _ 1 _ _ ho (by simp) (by simp) (fun d hd=>?_) (fun i j c d h1 h2=>?_)
  ·obtain ⟨a,_,rfl⟩:=List.mem_map.1 hd; rfl
  ·rw [Nat.zero_add] at h1
   have hi:i<l.length:=by
    unfold at2 at h2
    obtain ⟨e,he,_⟩:=bE9.1 h2
    have := (gS9.1 he).1; simpa using this
   have e1:at2 (List.map eI l++rest) i j=at2 (List.map eI l) i j:=by
    unfold at2; rw [List.getElem?_append_left (by simpa using hi)]
   rw [e1,h2] at h1; cases h1
   obtain ⟨e,he,hc⟩:=b9m h2
   have hm:=mG9 he
   obtain ⟨a,_,rfl⟩:=List.mem_map.1 hm
   exact .refl _ (b1t a _ (mG9 hc))
theorem u82 {n:Nat}:b2d (.mp n)=true:=rfl
theorem u81 {n:Nat}:cellsOf (.mp n)=[.mp n]:=rfl
variable {O:Orac} [MapsOk O] [DynOk O]
def L1i (a:Accident) (t:Theory):faults_inquiry:=⟨a,⟨a.Machine⟩,t⟩
theorem u9j (kC:∀ k,K86 O k) {a:Accident} {t_:Theory} {keep_n:String} {keep_a keep_b:List AV} {keep:Kp} (keep_z:Frz (.fn keep_n keep_a keep_b)) (keep_h:∀ z0 y,keep z0=some y->Fn O keep_n (keep_a++[I z0]++keep_b) (B y))
  {fits_n : String} {fits_a fits_b:List AV} {fits:Ft} (fits_z:Frz (.fn fits_n fits_a fits_b)) (fits_h:∀ z0 z1 z2 y,fits z0 z1 z2=some y->Fn O fits_n (fits_a++[I z0,.agg [I z1.State,I z1.Values.1,I z1.Values.2],I z2]++fits_b) (B y))
  {r : List Int × Bool} (hm0:s89 a t_ keep fits=some r) {L:AV} (hL:L = .fs 1 (List.map eI r.1)\/L = .dead) {t:Slots} {h:Heap} {iq im:Nat} (s8:t 8 = .rp iq 0 0) (H:IQ h iq im nilS (L1i a t_) (.fn keep_n keep_a keep_b) (.fn fits_n fits_a fits_b) [] []) :
  cw O (.seq (.seq (.reg u5s) (.cond (.t 38) (.seq (.reg u5t) .ret) .skip)) (.seq (.reg u5u) .ret)) (c4n [.t 6,.t 7] (.tup [L,B r.2]) []) t h:=by
 unfold s89 at hm0
 obtain ⟨rr,hr,hm0⟩:=b0g hm0
 obtain rfl:=Option.some.inj hm0
 refine b0v ?_
 refine b2p (fun t h=>∃ v',t 8 = .rp iq 0 0/\t 38=B (!rr.1)/\IQ h iq im v' (L1i a t_) (.fn keep_n keep_a keep_b) (.fn fits_n fits_a fits_b) rr.2.1 rr.2.2) (fun K hK=>?_) ?_
 ·simp only [go_sem,s8]
  refine d9m (kC _ (L1i a t_) keep_n keep_a keep_b keep keep_z keep_h fits_n fits_a fits_b fits fits_z fits_h ⟨0,⟨0,(0,0)⟩,0⟩ [] [] iq im nilS h H rr hr) ?_
  rintro _ h2 ⟨rfl,v3,H3⟩
  simp only [go_sem]
  exact hK _ _ ⟨v3,by simp only [go_sem,s8],by simp only [go_sem],H3⟩
 rintro t h ⟨v',s8,s38,H⟩
 refine b0i fun K hK=>?_
 simp only [go_sem,s38]
 refine b0k (fun hc=>?_) (fun hc=>?_)
 ·refine b0b fun K hK=>?_
  simp only [go_sem]
  refine hK _ _ ?_
  clear hK K
  simp only [b0x,b1p,b2e,b0y]
  have e:rr.1=false:=by simpa using hc
  rw [e]
  have hl:Fz h nilS L:=by
   rcases hL with rfl|rfl
   ·rw [e]; exact .nil _
   ·exact .dead _
  exact d66 (v:=nilS) (u:=B false) (by simp only [go_sem]) (by simp only [go_sem]) hl (.refl _ (b0e _))
 ·simp only [b0s,b0f]
  refine hK _ _ ?_
  clear hK K
  have hqs:=H.q
  simp only [QC] at hqs
  have e:rr.1=true:=by simpa using hc
  refine b0b fun K hK=>?_
  simp only [go_sem,s8,hqs,b5r v']
  refine hK _ _ ?_
  clear hK K
  simp only [b0x,b1p,b2e,b0y]
  rw [e]
  have hl:Fz h v' L:=by
   rcases hL with rfl|rfl
   ·rw [e]; exact u7p H.ow
   ·exact .dead _
  exact d66 (v:=v') (u:=B true) (by simp only [go_sem]) (by simp only [go_sem]) hl (.refl _ (b0e _))
theorem IQ.keep {h:Heap} {iq im:Nat} {v:AV} {q:faults_inquiry} {kf ff kf':AV} {dead:b54} {ins:List Int} (H:IQ h iq im v q kf ff dead ins) :
  IQ (h.upd iq (some (20,[QC q kf' ff im v]))) iq im v q kf' ff dead ins :=
 ⟨c53 rfl,H.ql,by rw [g3s (fun e=>H.ne e.symm)]; exact H.m,H.ml,s9q H.ow (fun j hj _=>g3s (fun e=>hj (by subst e; exact H.nq))) (Nat.le_refl _),H.ne,H.nq,H.nm⟩
theorem IQ.fits {h:Heap} {iq im:Nat} {v:AV} {q:faults_inquiry} {kf ff ff':AV} {dead:b54} {ins:List Int} (H:IQ h iq im v q kf ff dead ins) :
  IQ (h.upd iq (some (20,[QC q kf ff' im v]))) iq im v q kf ff' dead ins :=
 ⟨c53 rfl,H.ql,by rw [g3s (fun e=>H.ne e.symm)]; exact H.m,H.ml,s9q H.ow (fun j hj _=>g3s (fun e=>hj (by subst e; exact H.nq))) (Nat.le_refl _),H.ne,H.nq,H.nm⟩
theorem u9i (hf:Has O "newel/faults.search" x_faults_search) (kC:∀ k,K86 O k) {a:Accident} {t_:Theory} {opts:List AV} (hz:∀ o∈opts,Frz o) (hlen:opts.length<=1000) (kf ff:Nat->AV) (k0:kf 0 = .fn "newel/faults.search$1" [] []) (f0:ff 0 = .fn "newel/faults.search$2" [] [])
  (hstep : ∀ (k:Nat) o,opts[k]?=some o->∃ nm oa ob,o = .fn nm oa ob/\b2k nm=none/\∀ h iq im,IQ h iq im nilS (L1i a t_) (kf k) (ff k) [] []->b6e O nm (oa++[.rp iq 0 0]++ob) h (fun _ h'=>IQ h' iq im nilS (L1i a t_) (kf (k+1)) (ff (k+1)) [] []))
  {keep_n : String} {keep_a keep_b:List AV} {keep:Kp} (keep_z:Frz (.fn keep_n keep_a keep_b)) (keep_h:∀ z0 y,keep z0=some y->Fn O keep_n (keep_a++[I z0]++keep_b) (B y))
  {fits_n : String} {fits_a fits_b:List AV} {fits:Ft} (fits_z:Frz (.fn fits_n fits_a fits_b)) (fits_h:∀ z0 z1 z2 y,fits z0 z1 z2=some y->Fn O fits_n (fits_a++[I z0,.agg [I z1.State,I z1.Values.1,I z1.Values.2],I z2]++fits_b) (B y))
  (kN : kf opts.length = .fn keep_n keep_a keep_b) (fN:ff opts.length = .fn fits_n fits_a fits_b)
  {r : List Int × Bool} (hm0:s89 a t_ keep fits=some r) {L:AV} (hL:L = .fs 1 (List.map eI r.1)\/L = .dead) :
  Fn O "newel/faults.search" [.agg (aA a),.agg [I t_.Input,I t_.Value,I t_.From],.fs 1 (opts.map fun o=>[o])] (.tup [L,B r.2]):=by
 refine b1i hf rfl (b0a (.agg _ (b0a (b0c fun a _=>b0z a) (b0a (b0c fun a _=>b0z a) (b0a (b0c fun a _=>b1q a) (b0a (b0c fun a _=>b1s a) (b0a (b0c fun a _=>b1r a) (b0a (b0c fun a _=>b2j a) (b0a (b0e _) (b0a (b0c fun a _=>c17 a) b0j))))))))) (b0a (.agg _ (b0a (b0e _) (b0a (b0e _) (b0a (b0e _) b0j)))) (b0a (.fs _ _ fun e he c hc=>?_) b0j)))
  (.tup _ (b0a (by rcases hL with rfl|rfl; exact b0c fun a _=>b1t a; exact .dead) (b0a (b0e _) b0j))) ?_
 ·obtain ⟨o,ho,rfl⟩:=List.mem_map.1 he
  rw [List.mem_singleton.1 hc]; exact hz o ho
 refine b1c (fun t h=>t 0 = .agg (aA a)/\t 1 = .agg [I t_.Input,I t_.Value,I t_.From]/\t 2 = .fs 1 (opts.map fun o=>[o])) ⟨rfl,rfl,rfl⟩ fun t h ⟨s0,s1,s2⟩=>?_
 simp only [x_faults_search]
 refine b0b fun K hK=>?_
 simp only [go_sem,s0,s1]
 refine hK _ _ ?_
 clear hK K
 refine b2p (fun t h=>∃ iq im,t 2 = .fs 1 (opts.map fun o=>[o])/\t 8 = .rp iq 0 0/\IQ h iq im nilS (L1i a t_) (.v .nilFunc) (.v .nilFunc) [] []) (fun K hK=>?_) ?_
 ·simp only [go_sem]
  refine g0d (O:=O) (e:=List.map (eM (vks s8w) vB) []) rfl ?_
  simp only [go_sem,u82,u81]
  exact hK _ _ ⟨nxs h.nx,h.nx,by simp only [go_sem,s2],by simp only [go_sem],⟨by simp only [go_sem,QC,L1i],by simp only [go_sem,nxs]; omega,by simp only [go_sem],by simp only [go_sem,nxs]; omega,.inl ⟨rfl,rfl⟩,by simp only [nxs]; omega,trivial,trivial⟩⟩
 clear s0 s1 s2
 rintro t h ⟨iq,im,s2,s8,H⟩
 have hqs:=H.q
 simp only [QC] at hqs
 refine b2p (fun t h=>t 2 = .fs 1 (opts.map fun o=>[o])/\t 8 = .rp iq 0 0/\IQ h iq im nilS (L1i a t_) (.fn "newel/faults.search$1" [] []) (.v .nilFunc) [] []) (fun K hK=>?_) ?_
 ·simp only [go_sem,s8,hqs]
  exact hK _ _ ⟨by simp only [go_sem,s2],by simp only [go_sem,s8],H.keep⟩
 clear s2 s8 H hqs
 rintro t h ⟨s2,s8,H⟩
 have hqs:=H.q
 simp only [QC] at hqs
 refine b2p (fun t h=>t 2 = .fs 1 (opts.map fun o=>[o])/\t 8 = .rp iq 0 0/\IQ h iq im nilS (L1i a t_) (.fn "newel/faults.search$1" [] []) (.fn "newel/faults.search$2" [] []) [] []) (fun K hK=>?_) ?_
 ·simp only [go_sem,s8,hqs]
  exact hK _ _ ⟨by simp only [go_sem,s2],by simp only [go_sem,s8],H.fits⟩
 clear s2 s8 H hqs
 rintro t h ⟨s2,s8,H⟩
 refine b0v ?_
 refine b0b fun K hK=>?_
 simp only [go_sem,s2]
 refine hK _ _ ?_
 clear hK K
 refine b0i fun K1 hK1=>?_
 simp only [b0u]
 have hloop:b0w (fun x:Int=>if decide (x<(opts.length:Int)) then some (Out.nx (wr (x+1))) else some (.br ())) 0=some ():=by
  refine b4h opts.length (fun (_:Unit) k=>k) (fun _=>()) () (s0:=()) rfl (fun k hk=>?_) ?_
  ·simp only [Int.ofNat_lt,hk,decide_true,if_true,b2r hk (by simp only [maxLen]; omega:opts.length<=maxLen)]
  ·simp only [Int.lt_irrefl,decide_false,fT9,if_false]
 refine b1j hloop (fun x t h=>∃ k:Nat,x=(k:Int)/\k<=opts.length/\t 8 = .rp iq 0 0/\t 25 = .fs 1 (opts.map fun o=>[o])/\t 26=I (opts.length:Int)/\t 27=I x/\IQ h iq im nilS (L1i a t_) (kf k) (ff k) [] []) ?_ ?_
 ·exact ⟨0,rfl,Nat.zero_le _,by simp only [go_sem,s8],by simp only [go_sem],by simp only [go_sem,List.length_map],by simp only [go_sem],by rw [k0,f0]; exact H⟩
 clear s2 s8 H
 rintro x o t h ⟨k,rfl,hk,s8,s25,s26,s27,H⟩ hm1 hb
 rw [u5v]
 refine b0b fun K hK=>?_
 simp only [go_sem,s26,s27]
 refine hK _ _ ?_
 clear hK K
 refine b0i fun K2 hK2=>?_
 simp only [go_sem]
 refine b0k (fun hc=>?_) (fun hc=>?_)
 ·rw [b0r hc] at hm1
  obtain rfl:=Option.some.inj hm1
  have hk':k<opts.length:=by simpa using hc
  obtain ⟨o,ho⟩:=b3b hk'
  obtain ⟨nm,oa,ob,rfl,hmn,hst⟩:=hstep k o ho
  simp only [b0s,b02,b0f]
  refine hK2 _ _ ?_
  refine b0i fun K3 hK3=>?_
  simp only [b0u]
  have hg:get opts (k:Int)=some (.fn nm oa ob):=b1h ho
  have hel:((opts.map fun o=>[o]):List (List AV))[k]?=some [.fn nm oa ob]:=by rw [List.getElem?_map,ho]; rfl
  refine b0b fun K hK=>?_
  simp only [go_sem,s25,s27,b08 hg]
  refine hK _ _ ?_
  clear hK K
  refine b03 fun K hK=>?_
  simp only [go_sem,s8]
  refine u8l (hst h iq im H) hmn ?_
  intro w h' H'
  simp only [go_sem]
  refine hK _ _ ?_
  clear hK K
  simp only [b02,b0f]
  refine hK3 _ _ ?_
  refine b03 fun K hK=>?_
  simp only [go_sem,s27]
  refine hK _ _ ?_
  clear hK K
  simp only [b02,b0f]
  exact ⟨_,rfl,k+1,by rw [b2r hk' (by simp only [maxLen]; omega:opts.length<=maxLen)]; rfl,by omega,by simp only [go_sem,s8],by simp only [go_sem,s25],by simp only [go_sem,s26],by simp only [go_sem],H'⟩
 ·rw [b0q hc] at hm1
  obtain rfl:=Option.some.inj hm1
  have : k=opts.length:=by have:¬ k<opts.length:=by simpa using hc
                           omega
  subst this
  simp only [b09,b1b,b1a,c0s,b02,b0f,Nat.reduceEqDiff,not_false_eq_true]
  refine hK1 _ _ ?_
  rw [kN,fN] at H
  exact u9j kC keep_z keep_h fits_z fits_h hm0 hL (by simp only [go_sem,s8]) H
theorem u45 {n:String}:Frz (.fn n [] []):=.fn _ _ _ (fun c hc=>by simp at hc) (fun c hc=>by simp at hc)
theorem u8p (k1:s98 O):∀ z0 y,(fun _:Int=>some true) z0=some y->Fn O "newel/faults.search$1" ([]++[I z0]++[]) (B y):=fun z0 y hy=>by
 cases hy; exact k1 z0
theorem u7k (k2:z1x O):∀ z0 z1 z2 y,(fun (_:Int) (_:Place) (_:Int)=>some true) z0 z1 z2=some y->Fn O "newel/faults.search$2" ([]++[I z0,.agg [I z1.State,I z1.Values.1,I z1.Values.2],I z2]++[]) (B y):=fun z0 z1 z2 y hy=>by
 cases hy; exact k2 z0 z1 z2
theorem u8n (hf:Has O "newel/faults.search" x_faults_search) (kC:∀ k,K86 O k) (k1:s98 O) (k2:z1x O):s97 O:=fun a t_ r hm0 =>
 u9i hf kC (opts:=[]) (fun o ho=>by simp at ho) (by simp) (fun _=>.fn "newel/faults.search$1" [] []) (fun _=>.fn "newel/faults.search$2" [] []) rfl rfl (fun k o ho=>by simp at ho) u45 (u8p k1) u45 (u7k k2) rfl rfl hm0 (.inl rfl)
def u2i (O:Orac):Prop:=∀ k,K86 O k
theorem u3h (hf:Has O "(*newel/faults.inquiry).course" x___faults_inquiry__course) (d2w:c9y O) (d2x:c9z O) (d20:c92 O) (u3f:u1g O) (u3g:u1h O):u2i O:=by
 exact u48 hf d2w d2x d20 u3f u3g
theorem u0r (hf:Has O "newel/faults.search" x_faults_search) (u3h:u2i O) (u3l:s98 O) (u3m:z1x O):s97 O:=by
 exact u8n hf u3h u3l u3m
end Go.Nw.UM
namespace Go.Nw.UM
theorem b4j {α β:Type} {f:Int->Option (Out Int β)} {l:List α} {p:Nat->α->Prop} {e u:β} (hl:l.length<=maxLen)
  (h : ∀ (k:Nat) x,l[k]?=some x->∃ b:Bool,f k=(if b=true then some (.br e) else some (.nx (wr ((k:Int)+1))))/\(b=true ↔ p k x)) (fin:f (l.length:Int)=some (.br u)) :
  ((∀ k x,l[k]?=some x->¬ p k x)/\b0w f 0=some u)\/((∃ k x,l[k]?=some x/\p k x)/\b0w f 0=some e):=by
 refine c3v l p e u (fun k x hx hb=>?_) (fun k x hx hb=>?_) fin
 ·obtain ⟨b,h1,h2⟩:=h k x hx
  rw [h1,if_pos (h2.2 hb)]
 ·obtain ⟨b,h1,h2⟩:=h k x hx
  rw [h1,if_neg (fun hh=>hb (h2.1 hh)),b2r (b1k hx) hl]
def c0l (b:Int):Prop:=97<=b/\b<=122
def c0m (s:ByteArray):Prop:=s ∉ wl_0/\(∀ b∈b3q s,c0l b)/\0<s.size
def c3w (s:ByteArray):Prop:=s.size<=8/\c0m s
theorem b1d {α:Type} {l:List α} {x:α}:x∈l ↔ ∃ k:Nat,l[k]?=some x:=List.mem_iff_getElem?
theorem g3b (s:ByteArray) (h:s.size<=maxLen):(b3q s).length<=maxLen:=by rw [d42]; exact h
theorem l7j:wl_0.length=8:=rfl
theorem g5y (s:ByteArray) (hs:s.size<=maxLen):∃ b,c02 s=some b/\(b=true ↔ c0m s):=by
 unfold c02
 rcases b4j (f:=c4j s) (l:=wl_0) (p:=fun _ x=>s=x) (e:=.inr false) (u:=.inl ()) (by rw [l7j]; decide) (fun k x hx=>by
   refine ⟨decide (s=x),?_,by simp⟩
   have := b1k hx
   unfold c4j
   simp only [b1h hx,bS9,Int.ofNat_lt,this,decide_true,if_true]) (by unfold c4j; simp only [Int.lt_irrefl,decide_false,fT9,if_false]) with ⟨h1,h2⟩|⟨⟨k,x,h1,h2⟩,h3⟩
 ·rw [h2]
  simp only [bS9,c8o]
  have hnw:s ∉ wl_0:=fun h=>by
   obtain ⟨k,hk⟩:=b1d.1 h
   exact h1 k s hk rfl
  rcases b4j (f:=c4i s) (l:=b3q s) (p:=fun _ x=>¬ c0l x) (e:=.inr false) (u:=.inl ()) (g3b s hs) (fun k x hx=>by
    refine ⟨decide (x<97) || decide (122<x),?_,by simp [c0l]; omega⟩
    have := b1k hx
    rw [d42] at this
    unfold c4i
    simp only [b1h hx,bS9,Int.ofNat_lt,this,decide_true,if_true]) (by rw [d42]; unfold c4i; simp only [Int.lt_irrefl,decide_false,fT9,if_false]) with ⟨h3,h4⟩|⟨⟨k,x,h3,h4⟩,h5⟩
  ·rw [h4]
   refine ⟨_,rfl,?_⟩
   simp only [decide_eq_true_eq,c0m,hnw,not_false_eq_true,true_and]
   constructor
   ·exact fun h=>⟨fun b hb=>by
     obtain ⟨k,hk⟩:=b1d.1 hb
     exact Classical.not_not.1 (h3 k b hk),by omega⟩
   ·exact fun h=>by have:=h.2; omega
  ·rw [h5]
   exact ⟨_,rfl,by simp [c0m]; exact fun _ h=>absurd (h x (b1d.2 ⟨k,h3⟩)) h4⟩
 ·rw [h3]
  exact ⟨_,rfl,by simp [c0m]; exact fun h=>absurd (b1d.2 ⟨k,h2 ▸ h1⟩) h⟩
theorem g5s (s:ByteArray):b84 s=true ↔ s∈wl_0:=by
 have hw:wl_0=[ByteArray.mk #[97,110,121],ByteArray.mk #[116,111],ByteArray.mk #[122,101,114,111],ByteArray.mk #[109,111,114,101],ByteArray.mk #[108,101,115,115],ByteArray.mk #[105,102],ByteArray.mk #[121,101,115],ByteArray.mk #[110,111]]:=rfl
 rw [hw]
 unfold b84 b5w
 generalize ByteArray.mk #[97,110,121]=a0
 generalize ByteArray.mk #[116,111]=a1
 generalize ByteArray.mk #[122,101,114,111]=a2
 generalize ByteArray.mk #[109,111,114,101]=a3
 generalize ByteArray.mk #[108,101,115,115]=a4
 generalize ByteArray.mk #[105,102]=a5
 generalize ByteArray.mk #[121,101,115]=a6
 generalize ByteArray.mk #[110,111]=a7
 simp only [List.mem_cons,List.not_mem_nil,or_false]
 by_cases h0:s=a0
 ·subst h0
  simp only [decide_true,decide_false,if_true,if_false,fT9,true_or,or_true]
 by_cases h1:s=a1
 ·subst h1
  simp only [h0,decide_true,decide_false,if_true,if_false,fT9,true_or,or_true]
 by_cases h2:s=a2
 ·subst h2
  simp only [h0,h1,decide_true,decide_false,if_true,if_false,fT9,true_or,or_true]
 by_cases h3:s=a3
 ·subst h3
  simp only [h0,h1,h2,decide_true,decide_false,if_true,if_false,fT9,true_or,or_true]
 by_cases h4:s=a4
 ·subst h4
  simp only [h0,h1,h2,h3,decide_true,decide_false,if_true,if_false,fT9,true_or,or_true]
 by_cases h5:s=a5
 ·subst h5
  simp only [h0,h1,h2,h3,h4,decide_true,decide_false,if_true,if_false,fT9,true_or,or_true]
 by_cases h6:s=a6
 ·subst h6
  simp only [h0,h1,h2,h3,h4,h5,decide_true,decide_false,if_true,if_false,fT9,true_or,or_true]
 simp only [h0,h1,h2,h3,h4,h5,h6,decide_false,if_false,fT9,false_or,ite_self,decide_eq_true_eq]
 by_cases h7:s=a7 <;> simp [h7]
theorem j0o (s:ByteArray):s=ByteArray.mk #[] ↔ s.size=0:=by
 constructor
 ·rintro rfl; rfl
 ·intro h
  cases s with|mk d =>
  have : d.size=0:=h
  rw [Array.size_eq_zero_iff.1 this]
theorem g5r (s:ByteArray) (hs:s.size<=maxLen):∃ b,r1j s=some b/\(b=true ↔ (∀ b∈b3q s,c0l b)/\0<s.size):=by
 unfold r1j
 rcases b4j (f:=c42 s) (l:=b3q s) (p:=fun _ x=>¬ c0l x) (e:=.inr false) (u:=.inl ()) (g3b s hs) (fun k x hx=>by
   refine ⟨decide (x<97) || decide (122<x),?_,by simp [c0l]; omega⟩
   have := b1k hx
   unfold c42
   simp only [b1h hx,bS9,Int.ofNat_lt,this,decide_true,if_true]) (by unfold c42; simp only [Int.lt_irrefl,decide_false,fT9,if_false]) with ⟨h3,h4⟩|⟨⟨k,x,h3,h4⟩,h5⟩
 ·rw [h4]
  refine ⟨_,rfl,?_⟩
  simp only [Bool.not_eq_true',decide_eq_false_iff_not,j0o]
  constructor
  ·exact fun h=>⟨fun b hb=>by
    obtain ⟨k,hk⟩:=b1d.1 hb
    exact Classical.not_not.1 (h3 k b hk),by omega⟩
  ·exact fun h=>by have:=h.2; omega
 ·rw [h5]
  exact ⟨_,rfl,by simp; exact fun h=>absurd (h x (b1d.2 ⟨k,h3⟩)) h4⟩
theorem b9l {α β:Type} {f:(List β × Int)->Option (Out (List β × Int) (List β))} (l:List α) (g:α->β) (l0:List β) (b:Nat) (hb1:1<=b) (hb:(l0.length+l.length) * b<=2 ^ 40)
  (step : ∀ (k:Nat) x acc,l[k]?=some x->f (acc,(k:Int))=(ap b acc [g x]).bind fun r=>some (.nx (r,wr ((k:Int)+1)))) (fin:∀ acc,f (acc,(l.length:Int))=some (.br acc)):b0w f (l0,0)=some (l0++l.map g):=by
 have hn:l0.length+l.length<=2 ^ 40:=Nat.le_trans (Nat.le_mul_of_pos_right _ hb1) hb
 refine b4h l.length (fun acc k=>(acc,k)) (fun k=>l0++(l.take k).map g) _ (by simp) (fun k hk=>?_) ?_
 ·obtain ⟨x,hx⟩:=b3b hk
  rw [step k x _ hx,b9k,bS9,b2r hk (by simp only [maxLen]; omega)]
  ·have : (l.take (k+1)).map g=(l.take k).map g++[g x]:=by rw [List.take_add_one,hx]; simp
   rw [this,List.append_assoc]
  ·refine Nat.le_trans (Nat.mul_le_mul_right b ?_) hb
   simp only [List.length_append,List.length_map,List.length_take,List.length_cons,List.length_nil]
   omega
 ·rw [fin,List.take_length]
def b3g (m:Machine):List ByteArray:=((m.Inputs++m.Outputs)++m.Counters.map (·.Name))++m.States.map (·.Name)
structure SizesOk (m:Machine):Prop where
 i : m.Inputs.length<=4
 o : m.Outputs.length<=6
 c : m.Counters.length<=2
 s : 1<=m.States.length/\m.States.length<=12
 r : m.Rules.length<=40
theorem j8q {m:Machine} (h:SizesOk m):c4l m=some (b3g m):=by
 have := h.i; have:=h.o; have:=h.c; have:=h.s
 unfold c4l c8u c8v
 rw [b9k (by simp; omega),bS9,b9k (by simp; omega),bS9,
  b9l m.Counters (·.Name) _ 16 (by omega) (by simp; omega) (fun k x acc hx=>by
   have := b1k hx
   unfold c8t
   simp only [b1h hx,bS9,Int.ofNat_lt,this,decide_true,if_true]) (fun acc=>by unfold c8t; simp only [Int.lt_irrefl,decide_false,fT9,if_false]),bS9,
  b9l m.States (·.Name) _ 16 (by omega) (by simp; omega) (fun k x acc hx=>by
   have := b1k hx
   unfold c8s
   simp only [b1h hx,bS9,Int.ofNat_lt,this,decide_true,if_true]) (fun acc=>by unfold c8s; simp only [Int.lt_irrefl,decide_false,fT9,if_false]),bS9]
 rfl
theorem j8p {m:Machine} (h:SizesOk m):c45 m=some (b3g m):=by
 have := h.i; have:=h.o; have:=h.c; have:=h.s
 unfold c45
 split
 ·unfold c88 c9b c9c c9i
  rw [if_pos ⟨by simp; omega,by simp,by simp; omega⟩,bS9,
   b9l m.Counters (·.Name) _ 16 (by omega) (by simp; omega) (fun k x acc hx=>by
    have := b1k hx
    unfold c9a
    simp only [b1h hx,bS9,Int.ofNat_lt,this,decide_true,if_true]) (fun acc=>by unfold c9a; simp only [Int.lt_irrefl,decide_false,fT9,if_false]),bS9,
   b9l m.States (·.Name) _ 16 (by omega) (by simp; omega) (fun k x acc hx=>by
    have := b1k hx
    unfold c89
    simp only [b1h hx,bS9,Int.ofNat_lt,this,decide_true,if_true]) (fun acc=>by unfold c89; simp only [Int.lt_irrefl,decide_false,fT9,if_false]),bS9]
  simp [b3g]
 ·have h1:m.Inputs=[]:=List.eq_nil_of_length_eq_zero (by omega)
  have h2:m.Outputs=[]:=List.eq_nil_of_length_eq_zero (by omega)
  unfold c9d c9g c9h c9j
  rw [if_pos ⟨by simp [h1,h2],by simp⟩,bS9,
   b9l m.Counters (·.Name) _ 16 (by omega) (by simp; omega) (fun k x acc hx=>by
    have := b1k hx
    unfold c9f
    simp only [b1h hx,bS9,Int.ofNat_lt,this,decide_true,if_true]) (fun acc=>by unfold c9f; simp only [Int.lt_irrefl,decide_false,fT9,if_false]),bS9,
   b9l m.States (·.Name) _ 16 (by omega) (by simp; omega) (fun k x acc hx=>by
    have := b1k hx
    unfold c9e
    simp only [b1h hx,bS9,Int.ofNat_lt,this,decide_true,if_true]) (fun acc=>by unfold c9e; simp only [Int.lt_irrefl,decide_false,fT9,if_false]),bS9]
  simp [b3g,h1,h2]
end Go.Nw.UM
namespace Go.Nw.UM
def In (n:Int) (k:Nat):Prop:=0<=n/\n<(k:Int)
def b5a (m:Machine) (inside:Bool) (l:Literal):Prop :=
 (l.Kind = 1/\In l.Number m.Inputs.length/\l.Value=0)\/(l.Kind=2/\∃ (n:Nat) (c:Counter),l.Number=n/\m.Counters[n]?=some c/\0<=l.Value/\l.Value<=c.Max) \/
 (l.Kind = 3/\inside=true/\In l.Number m.States.length/\l.Value=0)\/(l.Kind=4/\In l.Number m.Outputs.length/\l.Value=0)
def b2s (m:Machine) (inside:Bool) (c:List (List Literal)):Prop:=c.length<=6/\∀ t∈c,t.length<=6/\∀ l∈t,b5a m inside l
theorem d2l {α:Type} {l:List α} {n:Int} (h:In n l.length):∃ (k:Nat) (x:α),n=k/\l[k]?=some x/\get l n=some x:=by
 obtain ⟨h0,h1⟩:=h
 obtain ⟨k,rfl⟩:=Int.eq_ofNat_of_zero_le h0
 obtain ⟨x,hx⟩:=b3b (l:=l) (k:=k) (by omega)
 exact ⟨k,x,rfl,hx,b1h hx⟩
theorem c2v {n:Int} {k:Nat} (hk:k<=maxLen):(decide (0<=n) && decide (n<=wr ((k:Int) - 1)))=true ↔ In n k:=by
 rw [c1n hk]
 simp only [Bool.and_eq_true,decide_eq_true_eq,In]
 constructor <;> exact fun h=>⟨by omega,by omega⟩
theorem b1o {n:Nat} (h:n<=1000):n<=maxLen:=by simp only [maxLen]; omega
theorem g1a {m:Machine} (hs:SizesOk m) {l:Literal} {inside:Bool} {β:Type} {g:Bool->Option β} :
  ∃ b:Bool,(if decide (l.Kind=1) then g ((b2b l.Number 0 (wr ((List.length m.Inputs:Int) - 1))) && (decide (l.Value=0)))
   else if decide (l.Kind=2) then (if (b2b l.Number 0 (wr ((List.length m.Counters:Int) - 1))) then (get m.Counters l.Number).bind fun x30=>some (b2b l.Value 0 x30.Max) else some false).bind fun c31=>g c31
   else if decide (l.Kind=3) then g ((inside && (b2b l.Number 0 (wr ((List.length m.States:Int) - 1)))) && (decide (l.Value=0)))
   else if decide (l.Kind=4) then g ((b2b l.Number 0 (wr ((List.length m.Outputs:Int) - 1))) && (decide (l.Value=0)))
   else g false)=g b/\(b=true ↔ b5a m inside l):=by
 have hi:=b1o (Nat.le_trans hs.i (by omega)); have ho:=b1o (Nat.le_trans hs.o (by omega)); have hc:=b1o (Nat.le_trans hs.c (by omega)); have hst:=b1o (Nat.le_trans hs.s.2 (by omega))
 unfold b2b b5a
 by_cases h1:l.Kind=1
 ·refine ⟨_,by rw [if_pos (by simpa using h1)],?_⟩
  rw [Bool.and_eq_true,c2v hi]
  simp [h1]
 by_cases h2:l.Kind=2
 ·rw [if_neg (by simpa using h1),if_pos (by simpa using h2)]
  by_cases hin:In l.Number m.Counters.length
  ·obtain ⟨k,c,hk,hx,hg⟩:=d2l hin
   rw [if_pos ((c2v hc).2 hin),hg]
   refine ⟨_,rfl,?_⟩
   simp only [h2,Int.reduceEq,false_and,true_and,false_or,or_false,Bool.and_eq_true,decide_eq_true_eq]
   constructor
   ·exact fun h=>⟨k,c,hk,hx,h⟩
   ·rintro ⟨n,c',hn,hx',h⟩
    have : n=k:=by omega
    subst this
    rw [hx] at hx'; cases hx'; exact h
  ·rw [if_neg (fun h=>hin ((c2v hc).1 h))]
   refine ⟨_,rfl,?_⟩
   simp only [h2,Int.reduceEq,false_and,true_and,false_or,or_false,fT9,false_iff,not_exists]
   rintro n c ⟨hn,hx,_⟩
   exact hin ⟨by omega,by have:=b1k hx; omega⟩
 by_cases h3:l.Kind=3
 ·refine ⟨_,by rw [if_neg (by simpa using h1),if_neg (by simpa using h2),if_pos (by simpa using h3)],?_⟩
  rw [Bool.and_eq_true,Bool.and_eq_true,c2v hst]
  simp [h3,and_assoc]
 by_cases h4:l.Kind=4
 ·refine ⟨_,by rw [if_neg (by simpa using h1),if_neg (by simpa using h2),if_neg (by simpa using h3),if_pos (by simpa using h4)],?_⟩
  rw [Bool.and_eq_true,c2v ho]
  simp [h4]
 ·refine ⟨false,by rw [if_neg (by simpa using h1),if_neg (by simpa using h2),if_neg (by simpa using h3),if_neg (by simpa using h4)],?_⟩
  simp [h1,h2,h3,h4]
theorem g1b {m:Machine} (hs:SizesOk m) {c:List (List Literal)} {i:Nat} {t:List Literal} (ht:c[i]?=some t) (inside:Bool) (hl:t.length<=6) :
  ((∀ l∈t,b5a m inside l)/\b0w (b8y m c inside i) 0=some (.inl ()))\/((∃ l∈t,¬ b5a m inside l)/\b0w (b8y m c inside i) 0=some (.inr false)):=by
 rcases b4j (f:=b8y m c inside i) (l:=t) (p:=fun _ l=>¬ b5a m inside l) (e:=.inr false) (u:=.inl ()) (b1o (by omega)) (fun k x hx=>by
   have hk:=b1k hx
   obtain ⟨b,h1,h2⟩:=g1a hs (l:=x) (inside:=inside) (g:=b7p k)
   refine ⟨!b,?_,by rw [<- h2]; simp⟩
   unfold b8y
   simp only [b1h ht,b1h hx,bS9,Int.ofNat_lt,hk,decide_true,if_true]
   rw [h1]
   rfl) (by unfold b8y; simp only [b1h ht,bS9,Int.lt_irrefl,decide_false,fT9,if_false]) with ⟨h1,h2⟩|⟨⟨k,x,h1,h2⟩,h3⟩
 ·exact .inl ⟨fun l hl=>by obtain ⟨k,hk⟩:=b1d.1 hl; exact Classical.not_not.1 (h1 k l hk),h2⟩
 ·exact .inr ⟨⟨x,b1d.2 ⟨k,h1⟩,h2⟩,h3⟩
theorem d6x {m:Machine} (hs:SizesOk m) (c:List (List Literal)) (inside:Bool):∃ b,c04 m c inside=some b/\(b=true ↔ b2s m inside c):=by
 unfold c04
 by_cases h6:c.length<=6
 case neg=>exact ⟨false,by rw [if_pos (by simp; omega)],by simp [b2s]; intro h; omega⟩
 rw [if_neg (by simp; omega)]
 rcases c3v (f:=c05 m c inside) c (fun _ t=>¬ (t.length<=6/\∀ l∈t,b5a m inside l)) (.inr false) (.inl ()) (fun k t ht hb=>by
   have hk:=b1k ht
   unfold c05
   simp only [b1h ht,bS9,Int.ofNat_lt,hk,decide_true,if_true]
   by_cases hl:t.length<=6
   ·rw [if_neg (by simp; omega)]
    rcases g1b hs ht inside hl with ⟨h1,_⟩|⟨_,h2⟩
    ·exact absurd ⟨hl,h1⟩ hb
    ·rw [h2]; rfl
   ·rw [if_pos (by simp; omega)]) (fun k t ht hb=>by
   have hk:=b1k ht
   obtain ⟨hl,h0⟩:=Classical.not_not.1 hb
   unfold c05
   simp only [b1h ht,bS9,Int.ofNat_lt,hk,decide_true,if_true]
   rw [if_neg (by simp; omega)]
   rcases g1b hs ht inside hl with ⟨_,h2⟩|⟨⟨l,h1,h2⟩,_⟩
   ·rw [h2]; simp only [bS9,c8p]; rw [b2r hk (b1o (by omega))]
   ·exact absurd (h0 l h1) h2) (by unfold c05; simp only [Int.lt_irrefl,decide_false,fT9,if_false]) with ⟨h1,h2⟩|⟨⟨k,t,h1,h2⟩,h3⟩
 ·rw [h2]
  exact ⟨true,rfl,by simp only [true_iff]; exact ⟨h6,fun t ht=>by obtain ⟨k,hk⟩:=b1d.1 ht; exact Classical.not_not.1 (h1 k t hk)⟩⟩
 ·rw [h3]
  exact ⟨false,rfl,by simp only [fT9,false_iff]; exact fun h=>h2 (h.2 t (b1d.2 ⟨k,h1⟩))⟩
theorem g57 {m:Machine} (hs:SizesOk m) (l:Literal):∃ b,c43 m l=some b/\(b=true ↔ b5a m true l):=by
 obtain ⟨b,h1,h2⟩:=g1a hs (l:=l) (inside:=true) (g:=fun b=>some b)
 refine ⟨b,?_,h2⟩
 rw [<- h1]
 unfold c43 b2q b2b
 simp only [Bool.true_and]
theorem d5p {m:Machine} (hs:SizesOk m) (c:List (List Literal)):∃ b,c1h m c=some b/\(b=true ↔ b2s m true c):=by
 unfold c1h
 by_cases h6:c.length<=6
 case neg=>exact ⟨false,by rw [if_pos (by simp; omega)],by simp [b2s]; intro h; omega⟩
 rw [if_neg (by simp; omega)]
 rcases b4j (f:=c4u m c) (l:=c) (p:=fun _ t=>¬ (t.length<=6/\∀ l∈t,b5a m true l)) (e:=.inr false) (u:=.inl ()) (b1o (by omega)) (fun k t ht=>by
   have hk:=b1k ht
   unfold c4u
   simp only [b1h ht,bS9,Int.ofNat_lt,hk,decide_true,if_true]
   by_cases hl:t.length<=6
   ·rw [if_neg (by simp; omega)]
    obtain ⟨b,h1,h2⟩:=G6l (g:=b7t t (fun z14=>b82 z14 m)) (s:=t) (f:=fun z14=>b82 z14 m) (p:=fun l=>¬ b5a m true l) rfl (b1o (by omega)) (fun x hx=>by
     obtain ⟨b,h1,h2⟩:=g57 hs x
     exact ⟨!b,by unfold b82; rw [h1]; rfl,by rw [<- h2]; simp⟩)
    rw [h1]
    refine ⟨b,rfl,?_⟩
    rw [h2]
    constructor
    ·rintro ⟨x,hx,h⟩ hh; exact h (hh.2 x hx)
    ·intro h
     exact Classical.byContradiction fun hn=>h ⟨hl,fun l hl'=>Classical.byContradiction fun h'=>hn ⟨l,hl',h'⟩⟩
   ·rw [if_pos (by simp; omega)]
    exact ⟨true,rfl,by simp; intro h; omega⟩) (by unfold c4u; simp only [Int.lt_irrefl,decide_false,fT9,if_false]) with ⟨h1,h2⟩|⟨⟨k,t,h1,h2⟩,h3⟩
 ·rw [h2]
  exact ⟨true,rfl,by simp only [true_iff]; exact ⟨h6,fun t ht=>by obtain ⟨k,hk⟩:=b1d.1 ht; exact Classical.not_not.1 (h1 k t hk)⟩⟩
 ·rw [h3]
  exact ⟨false,rfl,by simp only [fT9,false_iff]; exact fun h=>h2 (h.2 t (b1d.2 ⟨k,h1⟩))⟩
end Go.Nw.UM
namespace Go.Nw.UM
def b88 (l:List ByteArray) (k:Nat) (x:ByteArray):Prop:=¬ c3w x\/x∈l.take k
def c5c (l:List ByteArray):Prop:=∃ k x,l[k]?=some x/\b88 l k x
structure OkRule (m:Machine) (r:Rule):Prop where
 f : -1<=r.From/\r.From<(m.States.length:Int)
 t : In r.To m.States.length
 w : b2s m false r.When
 n : r.Sets.length<=4
 s : ∀ s∈r.Sets,(1<=s.Kind/\s.Kind<=3)/\In s.Counter m.Counters.length
structure OkM (m:Machine):Prop where
 z : SizesOk m
 n : ¬ c5c (b3g m)
 c : ∀ c∈m.Counters,1<=c.Max/\c.Max<=7
 s : ∀ s∈m.States,0<=s.Shows/\s.Shows<2 ^ m.Outputs.length
 r : ∀ r∈m.Rules,OkRule m r
theorem g12 {m:Machine} (h:SizesOk m):(b3g m).length<=24:=by
 have := h.i; have:=h.o; have:=h.c; have:=h.s
 simp [b3g]; omega
theorem g11 {s:ByteArray} (hs:s.size<=maxLen):∃ b,(if decide (8<(ByteArray.size s:Int)) then some true else (c02 s).bind fun y70=>some (!y70))=some b/\(b=true ↔ ¬ c3w s):=by
 by_cases h8:s.size<=8
 ·obtain ⟨b,h1,h2⟩:=g5y s hs
  rw [if_neg (by simp; omega),h1]
  exact ⟨!b,rfl,by simp [c3w,h8,<- h2]⟩
 ·rw [if_pos (by simp; omega)]
  exact ⟨true,rfl,by simp [c3w]; intro h; omega⟩
theorem j8o {l:List ByteArray} (hl:l.length<=24) (hf:∀ n∈l,n.size<=maxLen):(¬ c5c l/\b0w (b7n l) 0=some (.inl ()))\/(c5c l/\b0w (b7n l) 0=some (.inr 41)):=by
 have inner:∀ (i:Nat) x,l[i]?=some x->(x ∉ l.take i/\b0w (b8u l i) 0=some (.inl ()))\/(x∈l.take i/\b0w (b8u l i) 0=some (.inr 41)):=fun i x hx=>by
  have hi:=b1k hx
  have htl:(l.take i).length=i:=by rw [List.length_take]; omega
  rcases b4j (f:=b8u l i) (l:=l.take i) (p:=fun _ y=>y=x) (e:=.inr 41) (u:=.inl ()) (b1o (by omega)) (fun k y hy=>by
    have hk:=b1k hy
    rw [htl] at hk
    rw [List.getElem?_take,if_pos hk] at hy
    refine ⟨decide (y=x),?_,by simp⟩
    unfold b8u
    simp only [b1h hx,b1h hy,bS9,Int.ofNat_lt,hk,decide_true,if_true]) (by rw [htl]; unfold b8u; simp only [Int.lt_irrefl,decide_false,fT9,if_false]) with ⟨h1,h2⟩|⟨⟨k,y,h1,h2⟩,h3⟩
  ·exact .inl ⟨fun h=>by obtain ⟨k,hk⟩:=b1d.1 h; exact h1 k x hk rfl,h2⟩
  ·exact .inr ⟨b1d.2 ⟨k,h2 ▸ h1⟩,h3⟩
 rcases c3v (f:=b7n l) l (b88 l) (.inr 41) (.inl ()) (fun k x hx hb=>by
   have hk:=b1k hx
   obtain ⟨b,h1,h2⟩:=g11 (hf x (b1d.2 ⟨k,hx⟩))
   unfold b7n
   simp only [b1h hx,bS9,Int.ofNat_lt,hk,decide_true,if_true]
   rw [h1,bS9]
   cases b with
   | true=>rfl
   | false =>
    rw [if_neg (by simp)]
    rcases inner k x hx with ⟨h3,_⟩|⟨_,h4⟩
    ·rcases hb with hb|hb
     ·exact absurd (h2.2 hb) (by simp)
     ·exact absurd hb h3
    ·rw [h4]; rfl) (fun k x hx hb=>by
   have hk:=b1k hx
   obtain ⟨b,h1,h2⟩:=g11 (hf x (b1d.2 ⟨k,hx⟩))
   unfold b7n
   simp only [b1h hx,bS9,Int.ofNat_lt,hk,decide_true,if_true]
   rw [h1,bS9]
   have hbf:b=false:=x0f fun h=>hb (.inl (h2.1 h))
   subst hbf
   rw [if_neg (by simp)]
   rcases inner k x hx with ⟨_,h4⟩|⟨h3,_⟩
   ·rw [h4]; simp only [bS9,c8b]; rw [b2r hk (b1o (by omega))]
   ·exact absurd (.inr h3) hb) (by unfold b7n; simp only [Int.lt_irrefl,decide_false,fT9,if_false]) with ⟨h1,h2⟩|⟨h1,h2⟩
 ·exact .inl ⟨fun ⟨k,x,a,b⟩=>h1 k x a b,h2⟩
 ·exact .inr ⟨h1,h2⟩
theorem b6g {n a b:Int}:b2b n a b=true ↔ a<=n/\n<=b:=by unfold b2b; simp
theorem b6t {n a b:Int}:b2q n a b=true ↔ a<=n/\n<=b:=by unfold b2q; simp
theorem c83 {n:Nat} (h:n<=6):shl .i64 1 (n:Int)=some (2 ^ n):=by
 rw [l5j (by omega) (by omega)]; simp
theorem g3y {n:Nat} (h:n<=6):wr ((2:Int) ^ n - 1)=2 ^ n - 1:=by
 have h2:(2:Int) ^ n<=64:=by
  have := Nat.pow_le_pow_right (n:=2) (by omega) h
  have e:((2 ^ n:Nat):Int)=(2:Int) ^ n:=by simp
  omega
 have h1:(0:Int)<2 ^ n:=Int.pow_pos (by omega)
 exact b3t (by omega) (by omega)
theorem d5t {m:Machine} (hf:∀ n∈b3g m,n.size<=maxLen):∃ e,c0u m=some e/\((e=0/\OkM m)\/(e=41/\¬ OkM m)):=by
 unfold c0u
 by_cases hz:SizesOk m
 case neg =>
  refine ⟨41,?_,.inr ⟨rfl,fun h=>hz h.z⟩⟩
  rw [if_pos]
  refine Classical.byContradiction fun hc=>hz ?_
  simp only [Bool.or_eq_true,decide_eq_true_eq,Bool.not_eq_true',not_or,Bool.not_eq_false,b6g] at hc
  obtain ⟨⟨⟨⟨h1,h2⟩,h3⟩,h4⟩,h5⟩:=hc
  exact ⟨by omega,by omega,by omega,by omega,by omega⟩
 have hi:=hz.i; have ho:=hz.o; have hc:=hz.c; have hs:=hz.s; have hr:=hz.r
 rw [if_neg (by
  simp only [Bool.or_eq_true,decide_eq_true_eq,Bool.not_eq_true',not_or,Bool.not_eq_false,b6g]
  omega),j8q hz,bS9]
 rcases j8o (g12 hz) hf with ⟨hn,h2⟩|⟨hn,h2⟩
 case inr=>rw [h2]; exact ⟨41,rfl,.inr ⟨rfl,fun h=>h.n hn⟩⟩
 rw [h2,bS9]
 simp only
 unfold c77
 rcases b4j (f:=p6x m) (l:=m.Counters) (p:=fun _ c=>¬ (1<=c.Max/\c.Max<=7)) (e:=.inr 41) (u:=.inl ()) (b1o (by omega)) (fun k x hx=>by
   have hk:=b1k hx
   refine ⟨!(b2b x.Max 1 7),?_,by rw [<- b6g]; simp⟩
   unfold p6x
   simp only [b1h hx,bS9,Int.ofNat_lt,hk,decide_true,if_true]) (by unfold p6x; simp only [Int.lt_irrefl,decide_false,fT9,if_false]) with ⟨h1,h2⟩|⟨⟨k,x,h1,h2⟩,h3⟩
 case inr=>rw [h3]; exact ⟨41,rfl,.inr ⟨rfl,fun h=>h2 (h.c x (b1d.2 ⟨k,h1⟩))⟩⟩
 have hC:∀ c∈m.Counters,1<=c.Max/\c.Max<=7:=fun c hc=>by obtain ⟨k,hk⟩:=b1d.1 hc; exact Classical.not_not.1 (h1 k c hk)
 rw [h2,bS9]
 simp only
 unfold c78
 rcases b4j (f:=r8g m) (l:=m.States) (p:=fun _ s=>¬ (0<=s.Shows/\s.Shows<2 ^ m.Outputs.length)) (e:=.inr 41) (u:=.inl ()) (b1o (by omega)) (fun k x hx=>by
   have hk:=b1k hx
   refine ⟨!(b2b x.Shows 0 (2 ^ m.Outputs.length - 1)),?_,by simp only [Bool.not_eq_true',<- Bool.not_eq_true,b6g]; omega⟩
   unfold r8g
   simp only [b1h hx,bS9,Int.ofNat_lt,hk,decide_true,if_true]
   rw [c9p (by omega) (by omega),c83 ho,bS9,g3y ho]) (by unfold r8g; simp only [Int.lt_irrefl,decide_false,fT9,if_false]) with ⟨h1,h2⟩|⟨⟨k,x,h1,h2⟩,h3⟩
 case inr=>rw [h3]; exact ⟨41,rfl,.inr ⟨rfl,fun h=>h2 (h.s x (b1d.2 ⟨k,h1⟩))⟩⟩
 have hS:∀ s∈m.States,0<=s.Shows/\s.Shows<2 ^ m.Outputs.length:=fun c hc=>by obtain ⟨k,hk⟩:=b1d.1 hc; exact Classical.not_not.1 (h1 k c hk)
 rw [h2,bS9]
 simp only
 unfold c79
 have wrs:wr ((m.States.length:Int) - 1)=(m.States.length:Int) - 1:=c1n (b1o (by omega))
 have wrc:wr ((m.Counters.length:Int) - 1)=(m.Counters.length:Int) - 1:=c1n (b1o (by omega))
 have rule:∀ (k:Nat) x,m.Rules[k]?=some x->(OkRule m x/\b8v m k=some (.nx ((k:Int)+1)))\/(¬ OkRule m x/\b8v m k=some (.br (.inr 41))):=fun k x hx=>by
  have hk:=b1k hx
  unfold b8v
  simp only [b1h hx,bS9,Int.ofNat_lt,hk,decide_true,if_true,wrs]
  by_cases hft:b2b x.From (-1) ((m.States.length:Int) - 1)=true/\b2b x.To 0 ((m.States.length:Int) - 1)=true
  case neg =>
   rw [if_pos (by simp only [Bool.or_eq_true,Bool.not_eq_true',<- Bool.not_eq_true]; exact Classical.not_and_iff_not_or_not.1 hft),bS9,Bool.true_or]
   refine .inr ⟨fun h=>hft ?_,rfl⟩
   rw [b6g,b6g]
   have := h.f; have:=h.t
   unfold In at this
   exact ⟨by omega,by omega⟩
  rw [if_neg (by simp only [Bool.or_eq_true,Bool.not_eq_true',<- Bool.not_eq_true]; exact fun h=>h.elim (fun h=>h hft.1) fun h=>h hft.2)]
  rw [b6g,b6g] at hft
  obtain ⟨b,h1,h2⟩:=d6x hz x.When false
  rw [h1,bS9,bS9]
  by_cases hb:b=true/\x.Sets.length<=4
  case neg =>
   rw [if_pos (by
    simp only [Bool.or_eq_true,Bool.not_eq_true',decide_eq_true_eq]
    rcases Classical.not_and_iff_not_or_not.1 hb with h|h
    ·exact .inl (x0f h)
    ·exact .inr (by omega))]
   exact .inr ⟨fun h=>hb ⟨h2.2 h.w,h.n⟩,rfl⟩
  rw [if_neg (by
    simp only [Bool.or_eq_true,Bool.not_eq_true',decide_eq_true_eq,hb.1]
    have := hb.2
    simp; omega)]
  rcases b4j (f:=c39 m x) (l:=x.Sets) (p:=fun _ s=>¬ ((1<=s.Kind/\s.Kind<=3)/\In s.Counter m.Counters.length)) (e:=.inr 41) (u:=.inl ()) (b1o (by omega)) (fun k s hs=>by
    have hk:=b1k hs
    refine ⟨!(b2b s.Kind 1 3) || !(b2b s.Counter 0 ((m.Counters.length:Int) - 1)),?_,?_⟩
    ·unfold c39
     simp only [b1h hs,bS9,Int.ofNat_lt,hk,decide_true,if_true,wrc]
    ·simp only [Bool.or_eq_true,Bool.not_eq_true',<- Bool.not_eq_true,b6g,In]; omega) (by unfold c39; simp only [Int.lt_irrefl,decide_false,fT9,if_false]) with ⟨h3,h4⟩|⟨⟨j,s,h3,h4⟩,h5⟩
  ·rw [h4]
   refine .inl ⟨⟨by omega,by unfold In; omega,h2.1 hb.1,hb.2,fun s hs=>by obtain ⟨k,hk⟩:=b1d.1 hs; exact Classical.not_not.1 (h3 k s hk)⟩,?_⟩
   simp only [bS9,c8a]; rw [b2r hk (b1o (by omega))]
  ·rw [h5]
   exact .inr ⟨fun h=>h4 (h.s s (b1d.2 ⟨j,h3⟩)),rfl⟩
 rcases c3v (f:=b8v m) m.Rules (fun _ r=>¬ OkRule m r) (.inr 41) (.inl ()) (fun k x hx hb=>(rule k x hx).elim (fun h=>absurd h.1 hb) fun h=>h.2) (fun k x hx hb=>(rule k x hx).elim (fun h=>h.2) fun h=>absurd h.1 hb)
   (by unfold b8v; simp only [Int.lt_irrefl,decide_false,fT9,if_false]) with ⟨h1,h2⟩|⟨⟨k,x,h1,h2⟩,h3⟩
 ·rw [h2]
  exact ⟨0,rfl,.inl ⟨rfl,hz,hn,hC,hS,fun r hr=>by obtain ⟨k,hk⟩:=b1d.1 hr; exact Classical.not_not.1 (h1 k r hk)⟩⟩
 ·rw [h3]
  exact ⟨41,rfl,.inr ⟨rfl,fun h=>h2 (h.r x (b1d.2 ⟨k,h1⟩))⟩⟩
end Go.Nw.UM
namespace Go.Nw.UM
theorem j8n {m:Machine} (hz:SizesOk m) (hf:∀ n∈b3g m,n.size<=maxLen):∃ b,c44 m=some b/\(b=true ↔ ¬ c5c (b3g m)):=by
 unfold c44
 rw [j8p hz,bS9]
 have hl:=g12 hz
 generalize b3g m=l at hf hl
 have keys:∀ k,(((l.take k).map fun n=>(n,(1:Int))).map (·.1))=l.take k:=fun k=>by rw [List.map_map]; simp [Function.comp_def]
 have stepb:∀ (k:Nat) x,l[k]?=some x->∃ b,c1i l ((l.take k).map fun n=>(n,(1:Int)),(k:Int))=(if b=true then some (.br (.inr false)) else some (.nx ((b3w ((l.take k).map fun n=>(n,(1:Int))) x (wr ((b2w ((l.take k).map fun n=>(n,(1:Int))) x 0)+1))),(k:Int)+1)))/\(b=true ↔ b88 l k x):=fun k x hx=>by
  have hk:=b1k hx
  obtain ⟨b,h1,h2⟩:=g5r x (hf x (b1d.2 ⟨k,hx⟩))
  refine ⟨_,by
   unfold c1i
   simp only [b1h hx,bS9,Int.ofNat_lt,hk,decide_true,if_true,h1]
   rw [b2r hk (b1o (by omega))],?_⟩
  rw [j77]
  by_cases hin:x∈l.take k
  ·obtain ⟨d,hd⟩:=g1n (z:=(0:Int)) (l:=(l.take k).map fun n=>(n,(1:Int))) (k:=x) (by rw [keys]; exact hin)
   rw [List.getElem?_map] at hd
   obtain ⟨y,_,hy⟩:=mE9.1 hd
   simp only [Prod.mk.injEq] at hy
   rw [<- hy.2,show wr ((1:Int)+1)=2 from by decide]
   simp [b88,hin]
  ·rw [g1o (by rw [keys]; exact hin),show wr ((0:Int)+1)=1 from by decide]
   simp only [Bool.or_eq_true,Bool.not_eq_true',<- Bool.not_eq_true,h2,g5s,decide_eq_true_eq,b88,hin,or_false,c3w,c0m,Int.lt_irrefl]
   have e8:¬ (8:Int)<(x.size:Int) ↔ x.size<=8:=by omega
   rw [<- e8]
   exact ⟨fun h hh=>h.elim (fun h=>h.elim (fun h=>h hh.2.2) fun h=>hh.1 h) fun h=>hh.2.1 h,fun h=>by
    refine Classical.byContradiction fun hn=>h ?_
    simp only [not_or,Classical.not_not] at hn
    exact ⟨hn.1.2,hn.2,hn.1.1⟩⟩
 rcases g1j (f:=c1i l) l (fun s k=>(s,k)) (fun k=>(l.take k).map fun n=>(n,(1:Int))) (b88 l) (.inr false) (.inl ()) (fun k x _ hx hb=>by
   obtain ⟨b,h1,h2⟩:=stepb k x hx
   rw [h1,if_pos (h2.2 hb)]) (fun k x _ hx hb=>by
   obtain ⟨b,h1,h2⟩:=stepb k x hx
   rw [h1,if_neg (fun h=>hb (h2.1 h))]
   have hin:x ∉ l.take k:=fun h=>hb (.inr h)
   rw [g1w (by rw [keys]; exact hin),g1o (by rw [keys]; exact hin),show wr ((0:Int)+1)=1 from by decide,List.take_add_one,hx]
   simp) (by unfold c1i; simp only [Int.lt_irrefl,decide_false,fT9,if_false]) (s0:=[]) (by simp) with ⟨h1,h2⟩|⟨h1,h2⟩
 ·rw [h2]
  exact ⟨true,rfl,by simp only [true_iff]; exact fun ⟨k,x,a,b⟩=>h1 k x a b⟩
 ·rw [h2]
  exact ⟨false,rfl,by simp only [fT9,false_iff,Classical.not_not]; exact h1⟩
theorem d1i {m:Machine} {c:List (List Literal)}:b2s m false c ↔ b2s m true c/\∀ t∈c,¬ ∃ l∈t,l.Kind=3:=by
 unfold b2s b5a
 constructor
 ·intro h
  refine ⟨⟨h.1,fun t ht=>⟨(h.2 t ht).1,fun l hl=>?_⟩⟩,fun t ht ⟨l,hl,h3⟩=>?_⟩
  ·rcases (h.2 t ht).2 l hl with h|h|h|h
   ·exact .inl h
   ·exact .inr (.inl h)
   ·simp at h
   ·exact .inr (.inr (.inr h))
  ·rcases (h.2 t ht).2 l hl with h|h|h|h
   ·omega
   ·omega
   ·simp at h
   ·omega
 ·rintro ⟨h,h3⟩
  refine ⟨h.1,fun t ht=>⟨(h.2 t ht).1,fun l hl=>?_⟩⟩
  rcases (h.2 t ht).2 l hl with h|h|h|h
  ·exact .inl h
  ·exact .inr (.inl h)
  ·exact absurd ⟨l,hl,h.1⟩ (h3 t ht)
  ·exact .inr (.inr (.inr h))
theorem g5l {m:Machine} (hf:∀ n∈b3g m,n.size<=maxLen):∃ e,c4v m=some e/\((e=0/\OkM m)\/(e=41/\¬ OkM m)):=by
 unfold c4v
 by_cases hz:SizesOk m
 case neg =>
  refine ⟨41,?_,.inr ⟨rfl,fun h=>hz h.z⟩⟩
  rw [if_pos,bS9,if_pos rfl]
  refine Classical.byContradiction fun hc=>hz ?_
  simp only [Bool.or_eq_true,decide_eq_true_eq,Bool.not_eq_true',not_or,Bool.not_eq_false,b6t] at hc
  obtain ⟨⟨⟨⟨h1,h2⟩,h3⟩,h4⟩,h5⟩:=hc
  exact ⟨by omega,by omega,by omega,by omega,by omega⟩
 have hi:=hz.i; have ho:=hz.o; have hc:=hz.c; have hs:=hz.s; have hr:=hz.r
 obtain ⟨b,h1,h2⟩:=j8n hz hf
 rw [if_neg (by
  simp only [Bool.or_eq_true,decide_eq_true_eq,Bool.not_eq_true',not_or,Bool.not_eq_false,b6t]
  omega),h1,bS9,bS9]
 cases b with
 | false=>exact ⟨41,rfl,.inr ⟨rfl,fun h=>absurd (h2.2 h.n) (by simp)⟩⟩
 | true =>
 have hn:=h2.1 rfl
 rw [if_neg (by simp)]
 clear h1 h2
 rcases b4j (f:=c4z m) (l:=m.Counters) (p:=fun _ c=>¬ (1<=c.Max/\c.Max<=7)) (e:=.inr 41) (u:=.inl ()) (b1o (by omega)) (fun k x hx=>by
   have hk:=b1k hx
   refine ⟨!(b2q x.Max 1 7),?_,by rw [<- b6t]; simp⟩
   unfold c4z
   simp only [b1h hx,bS9,Int.ofNat_lt,hk,decide_true,if_true]) (by unfold c4z; simp only [Int.lt_irrefl,decide_false,fT9,if_false]) with ⟨h1,h2⟩|⟨⟨k,x,h1,h2⟩,h3⟩
 case inr=>rw [h3]; exact ⟨41,rfl,.inr ⟨rfl,fun h=>h2 (h.c x (b1d.2 ⟨k,h1⟩))⟩⟩
 have hC:∀ c∈m.Counters,1<=c.Max/\c.Max<=7:=fun c hc=>by obtain ⟨k,hk⟩:=b1d.1 hc; exact Classical.not_not.1 (h1 k c hk)
 rw [h2,bS9]
 simp only
 unfold p84
 rcases b4j (f:=c4w m) (l:=m.States) (p:=fun _ s=>¬ (0<=s.Shows/\s.Shows<2 ^ m.Outputs.length)) (e:=.inr 41) (u:=.inl ()) (b1o (by omega)) (fun k x hx=>by
   have hk:=b1k hx
   refine ⟨!(b2q x.Shows 0 (2 ^ m.Outputs.length - 1)),?_,by simp only [Bool.not_eq_true',<- Bool.not_eq_true,b6t]; omega⟩
   unfold c4w
   simp only [b1h hx,bS9,Int.ofNat_lt,hk,decide_true,if_true]
   rw [c83 ho,bS9,g3y ho]) (by unfold c4w; simp only [Int.lt_irrefl,decide_false,fT9,if_false]) with ⟨h1,h2⟩|⟨⟨k,x,h1,h2⟩,h3⟩
 case inr=>rw [h3]; exact ⟨41,rfl,.inr ⟨rfl,fun h=>h2 (h.s x (b1d.2 ⟨k,h1⟩))⟩⟩
 have hS:∀ s∈m.States,0<=s.Shows/\s.Shows<2 ^ m.Outputs.length:=fun c hc=>by obtain ⟨k,hk⟩:=b1d.1 hc; exact Classical.not_not.1 (h1 k c hk)
 rw [h2,bS9]
 simp only
 unfold c85
 have wrs:wr ((m.States.length:Int) - 1)=(m.States.length:Int) - 1:=c1n (b1o (by omega))
 have wrc:wr ((m.Counters.length:Int) - 1)=(m.Counters.length:Int) - 1:=c1n (b1o (by omega))
 have rule:∀ (k:Nat) x,m.Rules[k]?=some x->(OkRule m x/\b83 m k=some (.nx ((k:Int)+1)))\/(¬ OkRule m x/\b83 m k=some (.br (.inr 41))):=fun k x hx=>by
  have hk:=b1k hx
  unfold b83
  simp only [b1h hx,bS9,Int.ofNat_lt,hk,decide_true,if_true,wrs]
  by_cases hft:b2q x.From (-1) ((m.States.length:Int) - 1)=true/\b2q x.To 0 ((m.States.length:Int) - 1)=true
  case neg =>
   rw [if_pos (by simp only [Bool.or_eq_true,Bool.not_eq_true',<- Bool.not_eq_true]; exact Classical.not_and_iff_not_or_not.1 hft),bS9,Bool.true_or]
   refine .inr ⟨fun h=>hft ?_,rfl⟩
   rw [b6t,b6t]
   have := h.f; have:=h.t
   unfold In at this
   exact ⟨by omega,by omega⟩
  rw [if_neg (by simp only [Bool.or_eq_true,Bool.not_eq_true',<- Bool.not_eq_true]; exact fun h=>h.elim (fun h=>h hft.1) fun h=>h hft.2)]
  rw [b6t,b6t] at hft
  obtain ⟨b,h1,h2⟩:=d5p hz x.When
  rw [h1,bS9,bS9]
  by_cases hb:b=true/\x.Sets.length<=4
  case neg =>
   rw [if_pos (by
    simp only [Bool.or_eq_true,Bool.not_eq_true',decide_eq_true_eq]
    rcases Classical.not_and_iff_not_or_not.1 hb with h|h
    ·exact .inl (x0f h)
    ·exact .inr (by omega))]
   exact .inr ⟨fun h=>hb ⟨h2.2 (d1i.1 h.w).1,h.n⟩,rfl⟩
  rw [if_neg (by
    simp only [Bool.or_eq_true,Bool.not_eq_true',decide_eq_true_eq,hb.1]
    have := hb.2
    simp; omega)]
  have hw:=h2.1 hb.1
  rcases b4j (f:=c4x x) (l:=x.When) (p:=fun _ t=>∃ l∈t,l.Kind=3) (e:=.inr 41) (u:=.inl ()) (b1o (by have:=hw.1; omega)) (fun k t ht=>by
    have hk:=b1k ht
    obtain ⟨b,h1,h2⟩:=G6l (g:=b7t t (fun z53=>some (b7s z53))) (s:=t) (f:=fun z53=>some (b7s z53)) (p:=fun l=>l.Kind=3) rfl (b1o (by have:=(hw.2 t (b1d.2 ⟨k,ht⟩)).1; omega)) (fun x hx=>⟨_,rfl,by unfold b7s; simp⟩)
    refine ⟨b,?_,h2⟩
    unfold c4x
    simp only [b1h ht,bS9,Int.ofNat_lt,hk,decide_true,if_true]
    rw [h1]; rfl) (by unfold c4x; simp only [Int.lt_irrefl,decide_false,fT9,if_false]) with ⟨h3,h4⟩|⟨⟨j,s,h3,h4⟩,h5⟩
  case inr =>
   rw [h5]
   exact .inr ⟨fun h=>(d1i.1 h.w).2 s (b1d.2 ⟨j,h3⟩) h4,rfl⟩
  have hw':b2s m false x.When:=d1i.2 ⟨hw,fun t ht=>by obtain ⟨k,hk⟩:=b1d.1 ht; exact h3 k t hk⟩
  rw [h4]
  simp only [bS9]
  unfold c87
  clear h3 h4
  rcases b4j (f:=c4y m x) (l:=x.Sets) (p:=fun _ s=>¬ ((1<=s.Kind/\s.Kind<=3)/\In s.Counter m.Counters.length)) (e:=.inr 41) (u:=.inl ()) (b1o (by omega)) (fun k s hs=>by
    have hk:=b1k hs
    refine ⟨!(b2q s.Kind 1 3) || !(b2q s.Counter 0 ((m.Counters.length:Int) - 1)),?_,?_⟩
    ·unfold c4y
     simp only [b1h hs,bS9,Int.ofNat_lt,hk,decide_true,if_true,wrc]
    ·simp only [Bool.or_eq_true,Bool.not_eq_true',<- Bool.not_eq_true,b6t,In]; omega) (by unfold c4y; simp only [Int.lt_irrefl,decide_false,fT9,if_false]) with ⟨h3,h4⟩|⟨⟨j,s,h3,h4⟩,h5⟩
  ·rw [h4]
   refine .inl ⟨⟨by omega,by unfold In; omega,hw',hb.2,fun s hs=>by obtain ⟨k,hk⟩:=b1d.1 hs; exact Classical.not_not.1 (h3 k s hk)⟩,?_⟩
   simp only [bS9,c86]; rw [b2r hk (b1o (by omega))]
  ·rw [h5]
   exact .inr ⟨fun h=>h4 (h.s s (b1d.2 ⟨j,h3⟩)),rfl⟩
 rcases c3v (f:=b83 m) m.Rules (fun _ r=>¬ OkRule m r) (.inr 41) (.inl ()) (fun k x hx hb=>(rule k x hx).elim (fun h=>absurd h.1 hb) fun h=>h.2) (fun k x hx hb=>(rule k x hx).elim (fun h=>h.2) fun h=>absurd h.1 hb)
   (by unfold b83; simp only [Int.lt_irrefl,decide_false,fT9,if_false]) with ⟨h1,h2⟩|⟨⟨k,x,h1,h2⟩,h3⟩
 ·rw [h2]
  exact ⟨0,rfl,.inl ⟨rfl,hz,hn,hC,hS,fun r hr=>by obtain ⟨k,hk⟩:=b1d.1 hr; exact Classical.not_not.1 (h1 k r hk)⟩⟩
 ·rw [h3]
  exact ⟨41,rfl,.inr ⟨rfl,fun h=>h2 (h.r x (b1d.2 ⟨k,h1⟩))⟩⟩
theorem g5k {m:Machine} (hf:∀ n∈b3g m,n.size<=maxLen):∃ e,c2f m=some e/\((e=0/\OkM m)\/(e=41/\¬ OkM m)):=by
 obtain ⟨e,h1,h2⟩:=g5l hf
 exact ⟨e,by unfold c2f; rw [h1]; rfl,h2⟩
def b7w (m:Machine) (l:List (List (List Literal))) (e:Int):Prop:=(e=0/\OkM m/\∀ c∈l,b2s m true c)\/(e=41/\¬ OkM m)\/(e=42/\OkM m/\∃ c∈l,¬ b2s m true c)
theorem d6z {m:Machine} {l:List (List (List Literal))} {e f:Int} (h:b7w m l e) (h':b7w m l f):e=f:=by
 rcases h with ⟨rfl,a,b⟩|⟨rfl,a⟩|⟨rfl,a,b⟩ <;> rcases h' with ⟨rfl,a',b'⟩|⟨rfl,a'⟩|⟨rfl,a',b'⟩
 ·rfl
 ·exact absurd a a'
 ·obtain ⟨c,hc,hn⟩:=b'; exact absurd (b c hc) hn
 ·exact absurd a' a
 ·rfl
 ·exact absurd a' a
 ·obtain ⟨c,hc,hn⟩:=b; exact absurd (b' c hc) hn
 ·exact absurd a a'
 ·rfl
theorem d6t {m:Machine} (hf:∀ n∈b3g m,n.size<=maxLen) {l:List (List (List Literal))} (hl:l.length<=1000):∃ e,b9x m l=some e/\b7w m l e:=by
 unfold b9x
 obtain ⟨e,h1,h2⟩:=g5k hf
 rw [h1,bS9]
 rcases h2 with ⟨rfl,ho⟩|⟨rfl,ho⟩
 case inr=>exact ⟨41,rfl,.inr (.inl ⟨rfl,ho⟩)⟩
 rw [if_neg (by simp)]
 rcases b4j (f:=c2i m l) (l:=l) (p:=fun _ c=>¬ b2s m true c) (e:=.inr 42) (u:=.inl ()) (b1o hl) (fun k x hx=>by
   have hk:=b1k hx
   obtain ⟨b,h1,h2⟩:=d5p ho.z x
   refine ⟨!b,?_,by rw [<- h2]; simp⟩
   unfold c2i
   simp only [b1h hx,bS9,Int.ofNat_lt,hk,decide_true,if_true,h1]) (by unfold c2i; simp only [Int.lt_irrefl,decide_false,fT9,if_false]) with ⟨h3,h4⟩|⟨⟨j,s,h3,h4⟩,h5⟩
 ·rw [h4]
  exact ⟨0,rfl,.inl ⟨rfl,ho,fun c hc=>by obtain ⟨k,hk⟩:=b1d.1 hc; exact Classical.not_not.1 (h3 k c hk)⟩⟩
 ·rw [h5]
  exact ⟨42,rfl,.inr (.inr ⟨rfl,ho,s,b1d.2 ⟨j,h3⟩,h4⟩)⟩
theorem d5s {m:Machine} (hf:∀ n∈b3g m,n.size<=maxLen) {l:List (List (List Literal))} (hl:l.length<=1000):∃ e,c0v m l=some e/\b7w m l e:=by
 unfold c0v
 obtain ⟨e,h1,h2⟩:=d5t hf
 rw [h1,bS9]
 rcases h2 with ⟨rfl,ho⟩|⟨rfl,ho⟩
 case inr=>exact ⟨41,rfl,.inr (.inl ⟨rfl,ho⟩)⟩
 rw [if_neg (by simp)]
 rcases b4j (f:=p5t m l) (l:=l) (p:=fun _ c=>¬ b2s m true c) (e:=.inr 42) (u:=.inl ()) (b1o hl) (fun k x hx=>by
   have hk:=b1k hx
   obtain ⟨b,h1,h2⟩:=d6x ho.z x true
   refine ⟨!b,?_,by rw [<- h2]; simp⟩
   unfold p5t
   simp only [b1h hx,bS9,Int.ofNat_lt,hk,decide_true,if_true,h1]) (by unfold p5t; simp only [Int.lt_irrefl,decide_false,fT9,if_false]) with ⟨h3,h4⟩|⟨⟨j,s,h3,h4⟩,h5⟩
 ·rw [h4]
  exact ⟨0,rfl,.inl ⟨rfl,ho,fun c hc=>by obtain ⟨k,hk⟩:=b1d.1 hc; exact Classical.not_not.1 (h3 k c hk)⟩⟩
 ·rw [h5]
  exact ⟨42,rfl,.inr (.inr ⟨rfl,ho,s,b1d.2 ⟨j,h3⟩,h4⟩)⟩
end Go.Nw.UM
namespace Go.Nw.UM
noncomputable section
def b56 (m:Machine) (i:Nat):Int:=match m.Counters[i]? with|some c=>c.Max|none=>0
structure OkP (m:Machine) (p:Place):Prop where
 s : In p.State m.States.length
 a : 0<=p.Values.1/\p.Values.1<=b56 m 0
 b : 0<=p.Values.2/\p.Values.2<=b56 m 1
def OkX (m:Machine) (x:Int):Prop:=In x (2 ^ m.Inputs.length)
def lit (m:Machine) (p:Place) (x:Int) (l:Literal):Bool:=(b77 ⟨m⟩ l p x).getD false
def b46 (m:Machine) (p:Place) (x:Int) (c:List (List Literal)):Bool:=c.any fun t=>t.all (lit m p x)
def c25 (m:Machine) (p:Place) (x:Int) (c:List (List Literal)):Bool:=c.isEmpty || b46 m p x c
theorem c74 (p:Place):Place.mk p.State (p.Values.1,p.Values.2)=p:=rfl
theorem c2x {a b n:Int} (h:In n 2):get [a,b] n=some (if n=0 then a else b):=by
 obtain ⟨h0,h1⟩:=h
 have : n=0\/n=1:=by omega
 rcases this with rfl|rfl <;> rfl
theorem g09 {m:Machine} (hs:SizesOk m) {p:Place} (hp:In p.State m.States.length) {x:Int} {l:Literal} {ins:Bool} (hl:b5a m ins l) :
  b77 ⟨m⟩ l p x=some (lit m p x l)/\c1a m p x l=some (lit m p x l):=by
 have key:∃ b,b77 ⟨m⟩ l p x=some b/\c1a m p x l=some b:=by
  have hi:=hs.i; have ho:=hs.o; have hc:=hs.c
  unfold b77 c1a b6w b7q
  rcases hl with ⟨hk,hn,_⟩|⟨hk,n,c,hn,hx,_⟩|⟨hk,_⟩|⟨hk,hn,_⟩
  ·obtain ⟨h0,h1⟩:=hn
   simp only [hk,decide_true,if_true]
   rw [c9p h0 (by omega),g29 h0]
   exact ⟨_,rfl,rfl⟩
  ·have hlt:=b1k hx
   simp only [hk,Int.reduceEq,decide_false,fT9,if_false,decide_true,if_true]
   rw [c2x ⟨by omega,by omega⟩]
   exact ⟨_,rfl,rfl⟩
  ·simp only [hk,Int.reduceEq,decide_false,fT9,if_false,decide_true,if_true]
   exact ⟨_,rfl,rfl⟩
  ·obtain ⟨h0,h1⟩:=hn
   obtain ⟨k,s,_,_,hg⟩:=d2l hp
   simp only [hk,Int.reduceEq,decide_false,fT9,if_false,decide_true,if_true]
   rw [hg,bS9,bS9,c9p h0 (by omega),g29 h0]
   exact ⟨_,rfl,rfl⟩
 obtain ⟨b,h1,h2⟩:=key
 have : lit m p x l=b:=by unfold lit; rw [h1]; rfl
 rw [this]; exact ⟨h1,h2⟩
theorem c5w {m:Machine} (hs:SizesOk m) {p:Place} (hp:In p.State m.States.length) {x:Int} {c:List (List Literal)} {ins:Bool} (hc:b2s m ins c):b6v ⟨m⟩ c p x=some (b46 m p x c):=by
 unfold b6v
 obtain ⟨b,h1,h2⟩:=G6l (g:=c9k c (fun z3=>b74 z3 ⟨m⟩ p x)) (s:=c) (f:=fun z3=>b74 z3 ⟨m⟩ p x) (p:=fun t=>t.all (lit m p x)=true) rfl (b1o (by have:=hc.1; omega)) (fun t ht=>by
  obtain ⟨b,h1,h2⟩:=G6l (g:=b7t t (fun z3=>b76 z3 ⟨m⟩ p x)) (s:=t) (f:=fun z3=>b76 z3 ⟨m⟩ p x) (p:=fun l=>lit m p x l=false) rfl (b1o (by have:=(hc.2 t ht).1; omega)) (fun l hl=>by
   refine ⟨!(lit m p x l),?_,by simp⟩
   unfold b76
   rw [(g09 hs hp ((hc.2 t ht).2 l hl)).1]; rfl)
  refine ⟨!b,by unfold b74; rw [h1]; rfl,?_⟩
  rw [List.all_eq_true,Bool.not_eq_true',<- Bool.not_eq_true,h2]
  constructor
  ·exact fun h l hl=>by
    cases hq:lit m p x l with
    | true=>rfl
    | false=>exact absurd ⟨l,hl,hq⟩ h
  ·rintro h ⟨l,hl,hq⟩; rw [h l hl] at hq; cases hq)
 rw [h1,bS9]
 congr 1
 rw [Bool.eq_iff_iff,h2]
 unfold b46
 rw [List.any_eq_true]
theorem c5x {m:Machine} (hs:SizesOk m) {p:Place} (hp:In p.State m.States.length) {x:Int} {c:List (List Literal)} {ins:Bool} (hc:b2s m ins c):b7o m p x c=some (b46 m p x c):=by
 have inner:∀ (i:Nat) t,c[i]?=some t->b0w (c4e m p x c i) (true,0)=some (t.all (lit m p x)):=fun i t ht=>by
  have htm:=hc.2 t (b1d.2 ⟨i,ht⟩)
  refine b4h t.length (fun s k=>(s,k)) (fun k=>(t.take k).all (lit m p x)) _ (by simp) (fun k hk=>?_) ?_
  ·obtain ⟨l,hl⟩:=b3b hk
   unfold c4e
   simp only [b1h ht,b1h hl,bS9,Int.ofNat_lt,hk,decide_true,if_true]
   rw [(g09 hs hp (htm.2 l (b1d.2 ⟨k,hl⟩))).2,b2r hk (b1o (by omega)),List.take_add_one,hl]
   simp only [Option.toList_some,List.all_append,List.all_cons,List.all_nil,Bool.and_true]
   cases (t.take k).all (lit m p x) <;> simp
  ·unfold c4e
   simp only [b1h ht,bS9,Int.lt_irrefl,decide_false,fT9,if_false,List.take_length]
 unfold b7o
 rcases b4j (f:=c4d m p x c) (l:=c) (p:=fun _ t=>t.all (lit m p x)=true) (e:=.inr true) (u:=.inl ()) (b1o (by have:=hc.1; omega)) (fun k t ht=>by
   have hk:=b1k ht
   refine ⟨t.all (lit m p x),?_,Iff.rfl⟩
   unfold c4d c8f c8e
   simp only [Int.ofNat_lt,hk,decide_true,if_true]
   rw [inner k t ht]; rfl) (by unfold c4d; simp only [Int.lt_irrefl,decide_false,fT9,if_false]) with ⟨h1,h2⟩|⟨⟨k,t,h1,h2⟩,h3⟩
 ·rw [h2,bS9]
  show some false=_
  congr 1
  symm
  unfold b46
  rw [List.any_eq_false]
  intro t ht
  obtain ⟨k,hk⟩:=b1d.1 ht
  exact h1 k t hk
 ·rw [h3,bS9]
  show some true=_
  congr 1
  symm
  unfold b46
  exact List.any_eq_true.2 ⟨t,b1d.2 ⟨k,h1⟩,h2⟩
theorem g5i {m:Machine} (hs:SizesOk m) {p:Place} (hp:In p.State m.States.length) {x:Int} {c:List (List Literal)} {ins:Bool} (hc:b2s m ins c):c1z ⟨m⟩ c p x=some (c25 m p x c):=by
 unfold c1z c25
 cases c with
 | nil=>rfl
 | cons t r =>
  rw [if_neg (by simp; omega),c5w hs hp hc]; rfl
theorem d5o {m:Machine} (hs:SizesOk m) {p:Place} (hp:In p.State m.States.length) {x:Int} {c:List (List Literal)} {ins:Bool} (hc:b2s m ins c):c0t m p x c=some (c25 m p x c):=by
 unfold c0t c25
 cases c with
 | nil=>rfl
 | cons t r =>
  rw [if_neg (by simp; omega),c5x hs hp hc]; rfl
theorem d71 {α β:Type} {f:Int->Option (Out Int β)} {l:List α} {p:α->Bool} {e:α->β} {u:β} (hl:l.length<=maxLen)
  (h : ∀ (k:Nat) x,l[k]?=some x->f k=(if p x=true then some (.br (e x)) else some (.nx (wr ((k:Int)+1))))) (fin:f (l.length:Int)=some (.br u)) :
  b0w f 0=some (match l.find? p with|some x=>e x|none=>u):=by
 refine j7v (σ:=Unit) l (fun _ k=>k) (fun r _=>match r.find? p with|some x=>e x|none=>u) (fun _ _=>True) (fun _ k x r hd hx hlt hm _=>?_) (fun _ _=>fin) (s:=()) trivial
 have hxk:l[k]?=some x:=by
  have := b8j hx; simpa using this
 rw [h k x hxk]
 cases hp:p x with
 | true=>exact .inr (by simp [List.find?,hp])
 | false=>exact .inl ⟨(),by rw [if_neg (by simp),b2r (b1k hxk) hl],trivial,by simp [List.find?,hp]⟩
def b7e (m:Machine) (p:Place) (x:Int) (r:Rule):Bool:=(decide (r.From = -1) || decide (r.From=p.State)) && b46 m p x r.When
def b5v (m:Machine) (s:Set) (old:Int):Int:=if s.Kind=1 then 0 else if s.Kind=2 then mn (old+1) (b56 m s.Counter.toNat) else mx (old - 1) 0
def c60 (m:Machine) (v:Int × Int) (s:Set):Int × Int:=if s.Counter=0 then (b5v m s v.1,v.2) else (v.1,b5v m s v.2)
def nxt (m:Machine) (p:Place) (x:Int):Place:=match m.Rules.find? (b7e m p x) with
 | some r=>⟨r.To,r.Sets.foldl (c60 m) p.Values⟩
 | none=>p
def OkV (m:Machine) (v:Int × Int):Prop:=(0<=v.1/\v.1<=b56 m 0)/\(0<=v.2/\v.2<=b56 m 1)
theorem b57 {m:Machine} (hc:∀ c∈m.Counters,1<=c.Max/\c.Max<=7) (i:Nat):0<=b56 m i/\b56 m i<=7:=by
 unfold b56
 cases h:m.Counters[i]? with
 | none=>simp
 | some c=>have:=hc c (b1d.2 ⟨i,h⟩); simp only; omega
def c1s (m:Machine) (s:Set):Prop:=(1<=s.Kind/\s.Kind<=3)/\In s.Counter m.Counters.length
theorem l5e {m:Machine} (hm:OkM m) {s:Set} (hs:c1s m s) {v:Int × Int} (hv:OkV m v):OkV m (c60 m v s):=by
 obtain ⟨⟨h1,h2⟩,h3⟩:=hv
 have m0:=b57 hm.c 0; have m1:=b57 hm.c 1
 have hc:=hm.z.c
 obtain ⟨⟨k1,k2⟩,c0,c1⟩:=hs
 unfold c60
 have hcn:s.Counter=0\/s.Counter=1:=by omega
 rcases hcn with e|e
 ·rw [if_pos e]
  refine ⟨?_,h3⟩
  unfold b5v
  rw [e,g1r,g10]
  simp only [Int.toNat_zero]
  split
  ·omega
  ·split <;> omega
 ·rw [if_neg (by omega)]
  refine ⟨⟨h1,h2⟩,?_⟩
  unfold b5v
  rw [e,g1r,g10]
  simp only [show Int.toNat 1=1 from rfl]
  split
  ·omega
  ·split <;> omega
theorem J9i {m:Machine} (hm:OkM m):∀ (l:List Set),(∀ s∈l,c1s m s)->∀ {v:Int × Int},OkV m v->OkV m (l.foldl (c60 m) v)
 | [],_,v,hv=>hv
 | s :: l,hl,v,hv=>J9i hm l (fun x hx=>hl x (List.mem_cons_of_mem _ hx)) (l5e hm (hl s List.mem_cons_self) hv)
theorem s1f {m:Machine} (hm:OkM m) {p:Place} (hp:OkP m p) (x:Int):OkP m (nxt m p x):=by
 unfold nxt
 cases h:m.Rules.find? (b7e m p x) with
 | none=>exact hp
 | some r =>
  have hr:=hm.r r (List.mem_of_find?_eq_some h)
  have hv:=J9i hm r.Sets hr.s (v:=p.Values) ⟨hp.a,hp.b⟩
  exact ⟨hr.t,hv.1,hv.2⟩
theorem g26 {m:Machine} (hm:OkM m) {s:Set} (hs:c1s m s) {v:Int × Int} (hv:OkV m v) (w:Int) (hw:w=b5v m s (if s.Counter=0 then v.1 else v.2)):(b1n s.Counter 0 w v.1,b1n s.Counter 1 w v.2)=c60 m v s:=by
 have hc:=hm.z.c
 obtain ⟨_,c0,c1⟩:=hs
 have hcn:s.Counter=0\/s.Counter=1:=by omega
 subst hw
 unfold c60 b1n
 rcases hcn with e|e <;> simp [e]
theorem d61 {m:Machine} {s:Set} (hs:c1s m s):∃ c,get m.Counters s.Counter=some c/\b56 m s.Counter.toNat=c.Max:=by
 obtain ⟨k,c,hk,hx,hg⟩:=d2l hs.2
 refine ⟨c,hg,?_⟩
 rw [hk]; unfold b56
 simp [hx]
theorem l5i {m:Machine} (hm:OkM m) {s:Set} (hs:c1s m s) {p:Place} (hv:OkV m p.Values):r1b ⟨m⟩ s p=some ⟨p.State,c60 m p.Values s⟩:=by
 have hc:=hm.z.c
 obtain ⟨⟨h1,h2⟩,h3,h4⟩:=hv
 have m0:=b57 hm.c 0; have m1:=b57 hm.c 1
 have hin:In s.Counter 2:=by have:=hs.2; unfold In at *; omega
 have hold : -1<(if s.Counter=0 then p.Values.1 else p.Values.2)/\(if s.Counter=0 then p.Values.1 else p.Values.2)<8:=by split <;> omega
 have key:=fun w hw=>g26 hm hs (v:=p.Values) ⟨⟨h1,h2⟩,h3,h4⟩ w hw
 unfold r1b
 rw [c2x hin,bS9]
 obtain ⟨c,hg,hmx⟩:=d61 hs
 obtain ⟨⟨k1,k2⟩,_⟩:=hs
 have hk:s.Kind=1\/s.Kind=2\/s.Kind=3:=by omega
 rcases hk with e|e|e
 ·simp only [e,decide_true,if_true]
  rw [key 0 (by unfold b5v; rw [if_pos e])]
 ·simp only [e,Int.reduceEq,decide_false,fT9,if_false,decide_true,if_true]
  rw [hg,bS9,b3t (by omega) (by omega),key _ (by unfold b5v; rw [if_neg (show ¬ s.Kind=1 by omega),if_pos e,hmx])]
 ·simp only [e,Int.reduceEq,decide_false,fT9,if_false,decide_true,if_true]
  rw [b3t (by omega) (by omega),key _ (by unfold b5v; rw [if_neg (show ¬ s.Kind=1 by omega),if_neg (show ¬ s.Kind=2 by omega)])]
theorem j06 {m:Machine} {r:Rule} (hr:OkRule m r) {p:Place}:(decide (¬r.From=(-1)) && decide (¬r.From=p.State))=!(decide (r.From = -1) || decide (r.From=p.State)):=by
 by_cases h1:r.From = -1 <;> by_cases h2:r.From=p.State <;> simp [h1,h2]
theorem g5u {m:Machine} (hm:OkM m) {p:Place} (hp:OkP m p) (x:Int):r7y ⟨m⟩ p x=some (nxt m p x):=by
 have hr:=hm.z.r
 have inner:∀ r∈m.Rules,b0w (c11 ⟨m⟩ r) (p.State,p.Values.1,p.Values.2,0)=some (p.State,(r.Sets.foldl (c60 m) p.Values).1,(r.Sets.foldl (c60 m) p.Values).2):=fun r hrm=>by
  have ho:=hm.r r hrm
  refine b4h r.Sets.length (fun (s:Int × Int) k=>(p.State,s.1,s.2,k)) (fun k=>(r.Sets.take k).foldl (c60 m) p.Values) _ (by simp) (fun k hk=>?_) ?_
  ·obtain ⟨s,hs⟩:=b3b hk
   have hv:=J9i hm (r.Sets.take k) (fun s hs=>ho.s s (List.mem_of_mem_take hs)) (v:=p.Values) ⟨hp.a,hp.b⟩
   unfold c11
   simp only [b1h hs,bS9,Int.ofNat_lt,hk,decide_true,if_true]
   rw [l5i hm (ho.s s (b1d.2 ⟨k,hs⟩)) hv,bS9,b2r hk (b1o (by have:=ho.n; omega)),List.take_add_one,hs]
   simp
  ·unfold c11
   simp only [Int.lt_irrefl,decide_false,fT9,if_false,List.take_length]
 unfold r7y c6h
 rw [d71 (l:=m.Rules) (p:=b7e m p x) (e:=fun r=>(r.To,(r.Sets.foldl (c60 m) p.Values).1,(r.Sets.foldl (c60 m) p.Values).2)) (u:=(p.State,p.Values.1,p.Values.2)) (b1o (by omega)) (fun k r hrk=>by
   have hk:=b1k hrk
   have hrm:=b1d.2 ⟨k,hrk⟩
   unfold c6f c6i c6g
   simp only [b1h hrk,bS9,Int.ofNat_lt,hk,decide_true,if_true]
   rw [j06 (hm.r r hrm),c74,c5w hm.z hp.s (hm.r r hrm).w]
   unfold b7e
   cases hfr:(decide (r.From = -1) || decide (r.From=p.State)) with
   | false=>simp
   | true =>
    cases hh:b46 m p x r.When with
    | false=>simp
    | true=>simp [inner r hrm]) (by unfold c6f; simp only [Int.lt_irrefl,decide_false,fT9,if_false])]
 unfold nxt
 cases m.Rules.find? (b7e m p x) <;> rfl
theorem d5u {m:Machine} (hm:OkM m) {p:Place} (hp:OkP m p) (x:Int):c0w m p x=some (nxt m p x):=by
 have hr:=hm.z.r
 have inner:∀ r∈m.Rules,b0w (c4f m r) (p.Values.1,p.Values.2,0)=some ((r.Sets.foldl (c60 m) p.Values).1,(r.Sets.foldl (c60 m) p.Values).2):=fun r hrm=>by
  have ho:=hm.r r hrm
  refine b4h r.Sets.length (fun (s:Int × Int) k=>(s.1,s.2,k)) (fun k=>(r.Sets.take k).foldl (c60 m) p.Values) _ (by simp) (fun k hk=>?_) ?_
  ·obtain ⟨s,hs⟩:=b3b hk
   have hv:=J9i hm (r.Sets.take k) (fun s hs=>ho.s s (List.mem_of_mem_take hs)) (v:=p.Values) ⟨hp.a,hp.b⟩
   have hso:=ho.s s (b1d.2 ⟨k,hs⟩)
   have hin:In s.Counter 2:=by have:=hso.2; have:=hm.z.c; unfold In at *; omega
   rw [List.take_add_one,hs]
   simp only [Option.toList_some,List.foldl_append,List.foldl_cons,List.foldl_nil]
   generalize (r.Sets.take k).foldl (c60 m) p.Values=v at hv
   have m0:=b57 hm.c 0; have m1:=b57 hm.c 1
   have key:=fun w hw=>g26 hm hso hv w hw
   obtain ⟨⟨h1,h2⟩,h3,h4⟩:=hv
   have hold : -1<(if s.Counter=0 then v.1 else v.2)/\(if s.Counter=0 then v.1 else v.2)<8:=by split <;> omega
   obtain ⟨c,hg,hmx⟩:=d61 hso
   obtain ⟨⟨k1,k2⟩,_⟩:=hso
   have hk3:s.Kind=1\/s.Kind=2\/s.Kind=3:=by omega
   unfold c4f b8x
   simp only [b1h hs,bS9,Int.ofNat_lt,hk,decide_true,if_true]
   rw [b2r hk (b1o (by have:=ho.n; omega))]
   rcases hk3 with e|e|e
   ·simp only [e,decide_true,if_true]
    rw [c2x hin,bS9,<- key 0 (by unfold b5v; rw [if_pos e])]
   ·simp only [e,Int.reduceEq,decide_false,fT9,if_false,decide_true,if_true]
    rw [c2x hin,bS9,hg,bS9,b3t (by omega) (by omega),<- key _ (by unfold b5v; rw [if_neg (show ¬ s.Kind=1 by omega),if_pos e,hmx])]
   ·simp only [e,Int.reduceEq,decide_false,fT9,if_false,decide_true,if_true]
    rw [c2x hin,bS9,b3t (by omega) (by omega),<- key _ (by unfold b5v; rw [if_neg (show ¬ s.Kind=1 by omega),if_neg (show ¬ s.Kind=2 by omega)])]
  ·unfold c4f
   simp only [Int.lt_irrefl,decide_false,fT9,if_false,List.take_length]
 unfold c0w c8i
 rw [d71 (l:=m.Rules) (p:=b7e m p x) (e:=fun r=>.inr ⟨r.To,r.Sets.foldl (c60 m) p.Values⟩) (u:=.inl ()) (b1o (by omega)) (fun k r hrk=>by
   have hk:=b1k hrk
   have hrm:=b1d.2 ⟨k,hrk⟩
   have hfr0:=(hm.r r hrm).f
   unfold c8g c8j c8h
   simp only [b1h hrk,bS9,Int.ofNat_lt,hk,decide_true,if_true]
   have e0:(decide (0<=r.From) && decide (¬r.From=p.State))=!(decide (r.From = -1) || decide (r.From=p.State)):=by
    by_cases h1:r.From = -1
    ·simp [h1]
    ·by_cases h2:r.From=p.State
     ·simp [h2]
     ·have : 0<=r.From:=by omega
      simp [h1,h2,this]
   rw [e0,c5x hm.z hp.s (hm.r r hrm).w]
   unfold b7e
   cases hfr:(decide (r.From = -1) || decide (r.From=p.State)) with
   | false=>simp
   | true =>
    cases hh:b46 m p x r.When with
    | false=>simp
    | true=>simp [inner r hrm]) (by unfold c8g; simp only [Int.lt_irrefl,decide_false,fT9,if_false])]
 unfold nxt
 cases m.Rules.find? (b7e m p x) <;> rfl
end
end Go.Nw.UM
namespace Go.Nw.UM
noncomputable section
theorem d4k:∀ (n:Nat) (l:List Nat),l.Nodup->(∀ x∈l,x<n)->l.length<=n
 | 0,l,_,h=>by
  cases l with
  | nil=>simp
  | cons a l=>exact absurd (h a List.mem_cons_self) (by omega)
 | n+1,l,hn,h=>by
  by_cases hm:n∈l
  ·have h1:=d4k n (l.erase n) (hn.erase n) (fun x hx=>by
    have := (hn.mem_erase_iff).1 hx
    have := h x this.2
    omega)
   rw [List.length_erase_of_mem hm] at h1
   omega
  ·have := d4k n l hn (fun x hx=>by
    have := h x hx
    have : x≠n:=fun e=>hm (e ▸ hx)
    omega)
   omega
theorem l1z {α β:Type} {f:α->β} {l:List α} (hn:l.Nodup) (hf:∀ a∈l,∀ b∈l,f a=f b->a=b):(l.map f).Nodup:=by
 unfold List.Nodup at *
 rw [List.pairwise_map]
 refine List.Pairwise.imp_of_mem ?_ hn
 intro a b ha hb hne e
 exact hne (hf a ha b hb e)
def zero:Place:=⟨0,(0,0)⟩
theorem o5b {m:Machine} (hm:OkM m):OkP m zero:=by
 have := hm.z.s
 exact ⟨⟨by simp [zero],by simp [zero]; omega⟩,⟨Int.le_refl _,(b57 hm.c 0).1⟩,⟨Int.le_refl _,(b57 hm.c 1).1⟩⟩
theorem c0q {m:Machine} (hm:OkM m) {l:List Place} (hn:l.Nodup) (ho:∀ p∈l,OkP m p):l.length<=768:=by
 have hb:∀ p∈l,0<=p.State/\p.State<12/\0<=p.Values.1/\p.Values.1<=7/\0<=p.Values.2/\p.Values.2<=7:=fun p hp=>by
  have h:=ho p hp
  have hs:=hm.z.s
  have := h.s; have:=h.a; have:=h.b; have:=b57 hm.c 0; have:=b57 hm.c 1
  unfold In at *
  omega
 have h1:=d4k 768 (l.map fun p=>(p.State * 64+p.Values.1 * 8+p.Values.2).toNat) (l1z hn fun p hp q hq e=>by
   have := hb p hp; have:=hb q hq
   obtain ⟨s,a,b⟩:=p; obtain ⟨s',a',b'⟩:=q
   simp only at *
   have e1:s=s':=by omega
   have e2:a=a':=by omega
   have e3:b=b':=by omega
   subst e1; subst e2; subst e3; rfl) (fun x hx=>by
   obtain ⟨p,hp,rfl⟩:=List.mem_map.1 hx
   have := hb p hp
   omega)
 simpa using h1
abbrev S3:=List Place × List Int × List Int
def b5l (s:S3) (i x:Nat) (q:Place):S3:=if q∈s.1 then s else (s.1++[q],s.2.1++[(i:Int)],s.2.2++[(x:Int)])
section
variable (m:Machine) (c:List (List Literal)) (hd:Nat->Int)
def inn (i:Nat) (p:Place):Nat->S3->S3
 | 0,s=>s
 | x+1,s=>if c25 m p x c=true then b5l (inn i p x s) i x (nxt m p (hd x)) else inn i p x s
def b0h:Nat->S3
 | 0=>([zero],[-1],[0])
 | k+1=>match (b0h k).1[k]? with|some p=>inn m c hd k p (2 ^ m.Inputs.length) (b0h k)|none=>b0h k
end
variable {m:Machine} {c:List (List Literal)} {hd:Nat->Int}
structure Good (m:Machine) (s:S3):Prop where
 n : s.1.Nodup
 o : ∀ p∈s.1,OkP m p
 b : s.2.1.length=s.1.length
 i : s.2.2.length=s.1.length
theorem g5z {s:S3} (h:Good m s) {i x:Nat} {q:Place} (hq:OkP m q):Good m (b5l s i x q):=by
 unfold b5l
 split
 ·exact h
 ·rename_i hn
  refine ⟨?_,fun p hp=>?_,by simp [h.b],by simp [h.i]⟩
  ·rw [List.nodup_append]
   exact ⟨h.n,by simp,fun a ha b hb e=>by simp at hb; subst hb; exact hn (e ▸ ha)⟩
  ·rcases List.mem_append.1 hp with hp|hp
   ·exact h.o p hp
   ·simp at hp; subst hp; exact hq
theorem d5y (s:S3) (i x:Nat) (q:Place):s.1 <+: (b5l s i x q).1:=by
 unfold b5l; split
 ·exact List.prefix_refl _
 ·exact List.prefix_append _ _
theorem g50 (s:S3) (i x:Nat) (q:Place):q∈(b5l s i x q).1:=by
 unfold b5l; split
 ·assumption
 ·simp
theorem c0g (hm:OkM m) {i:Nat} {p:Place} (hp:OkP m p):∀ (x:Nat) {s:S3},Good m s->Good m (inn m c hd i p x s)
 | 0,s,h=>h
 | x+1,s,h=>by
  unfold inn; split
  ·exact g5z (c0g hm hp x h) (s1f hm hp _)
  ·exact c0g hm hp x h
theorem c3a {i:Nat} {p:Place}:∀ (x:Nat) {s:S3},s.1 <+: (inn m c hd i p x s).1
 | 0,s=>List.prefix_refl _
 | x+1,s=>by
  unfold inn; split
  ·exact (c3a x).trans (d5y _ _ _ _)
  ·exact c3a x
theorem d2m {i:Nat} {p:Place} {j:Nat} (ha:c25 m p j c=true):∀ (x:Nat) {s:S3},j<x->nxt m p (hd j)∈(inn m c hd i p x s).1
 | 0,s,h=>by omega
 | x+1,s,h=>by
  by_cases e:j=x
  ·subst e; unfold inn; rw [if_pos ha]; exact g50 _ _ _ _
  ·have ih:=d2m (i:=i) ha x (s:=s) (by omega)
   unfold inn; split
   ·exact (d5y _ _ _ _).subset ih
   ·exact ih
theorem s3t (hm:OkM m):∀ k,Good m (b0h m c hd k)
 | 0=>⟨by simp [b0h],fun p hp=>by simp [b0h] at hp; subst hp; exact o5b hm,rfl,rfl⟩
 | k+1=>by
  have ih:=s3t hm k
  unfold b0h
  split
  ·rename_i p hp; exact c0g hm (ih.o p (b1d.2 ⟨k,hp⟩)) _ ih
  ·exact ih
theorem c3y (k:Nat):(b0h m c hd k).1 <+: (b0h m c hd (k+1)).1:=by
 conv => rhs; unfold b0h
 split
 ·exact c3a _
 ·exact List.prefix_refl _
theorem g2u (hm:OkM m):∃ K,K<=768/\(∀ k,k<K->k<(b0h m c hd k).1.length)/\(b0h m c hd K).1.length<=K:=by
 have hb:∀ k,(b0h m c hd k).1.length<=768:=fun k=>c0q hm (s3t hm k).n (s3t hm k).o
 have key:∀ d,(∃ K,K<=d/\(∀ k,k<K->k<(b0h m c hd k).1.length)/\(b0h m c hd K).1.length<=K)\/∀ k,k<=d->k<(b0h m c hd k).1.length:=by
  intro d
  induction d with
  | zero =>
   by_cases h:(b0h m c hd 0).1.length<=0
   ·exact .inl ⟨0,Nat.le_refl _,fun k hk=>by omega,h⟩
   ·exact .inr fun k hk=>by have:k=0:=by omega
                            subst this; omega
  | succ d ih =>
   rcases ih with ⟨K,h1,h2⟩|h
   ·exact .inl ⟨K,by omega,h2⟩
   ·by_cases h':(b0h m c hd (d+1)).1.length<=d+1
    ·exact .inl ⟨d+1,Nat.le_refl _,fun k hk=>h k (by omega),h'⟩
    ·exact .inr fun k hk=>by
      by_cases e:k=d+1
      ·subst e; omega
      ·exact h k (by omega)
 rcases key 768 with h|h
 ·exact h
 ·have := h 768 (Nat.le_refl _); have:=hb 768; omega
theorem c0r {α:Type} {l r:List α} (h:l <+: r) {k:Nat} {x:α} (hx:l[k]?=some x):r[k]?=some x:=by
 obtain ⟨t,rfl⟩:=h
 rw [List.getElem?_append_left (b1k hx)]; exact hx
theorem p2a {m:Machine} (hs:SizesOk m):2 ^ m.Inputs.length<=16:=Nat.pow_le_pow_right (n:=2) (by omega) hs.i
theorem b6d {α:Type} {b:Nat} {l m:List α} (hl:l.length<=1000) (hm:m.length<=1000) (hb:b<=1000):ap b l m=some (l++m):=b9k (by
 have : (l.length+m.length) * b<=2000 * 1000:=Nat.mul_le_mul (by omega) hb
 omega)
end
end Go.Nw.UM
namespace Go.Nw.UM
noncomputable section
section
variable (m:Machine) (c:List (List Literal)) (hd:Nat->Int)
def rv (P:List Place) (p:Place) (j:Nat):Int:=if c25 m p j c=true then (P.idxOf (nxt m p (hd j)):Int) else -1
end
variable {m:Machine} {c:List (List Literal)} {hd:Nat->Int}
theorem closed {k i j:Nat} {p:Place} (hp:(b0h m c hd k).1[i]?=some p) (hi:i<k) (ha:c25 m p j c=true) (hj:j<2 ^ m.Inputs.length):nxt m p (hd j)∈(b0h m c hd k).1:=by
 induction k with
 | zero=>omega
 | succ k ih =>
  have hpre:=c3y (m:=m) (c:=c) (hd:=hd) k
  by_cases e:i=k
  ·subst e
   conv at hp=>lhs; unfold b0h
   cases hq:(b0h m c hd i).1[i]? with
   | none =>
    simp only [hq] at hp
    cases hp
   | some q =>
    have : p=q:=by
     have h1:=c0r hpre hq
     conv at h1=>lhs; unfold b0h
     rw [h1] at hp; exact (Option.some.inj hp).symm
    subst this
    have hout:b0h m c hd (i+1)=inn m c hd i p (2 ^ m.Inputs.length) (b0h m c hd i):=by
     conv => lhs; unfold b0h
     rw [hq]
    rw [hout]
    exact d2m ha _ hj
  ·by_cases hlt:i<(b0h m c hd k).1.length
   ·obtain ⟨q,hq⟩:=b3b hlt
    have h1:=c0r hpre hq
    rw [h1] at hp
    have : p=q:=(Option.some.inj hp).symm
    subst this
    exact hpre.subset (ih hq (by omega))
   ·have hn:(b0h m c hd k).1[k]?=none:=List.getElem?_eq_none (by omega)
    conv at hp=>lhs; unfold b0h
    simp only [hn] at hp
    exact absurd (b1k hp) hlt
end
end Go.Nw.UM
namespace Go.Nw.UM
noncomputable section
def Few {α:Type} (l:List α):Prop:=l.length<=1048576
def d02 (c:List (List Literal)):Prop:=Few c/\∀ t∈c,Few t
structure FewM (m:Machine):Prop where
 i : Few m.Inputs
 o : Few m.Outputs
 c : Few m.Counters
 s : Few m.States
 r : Few m.Rules
 w : ∀ r∈m.Rules,d02 r.When/\Few r.Sets
 n : ∀ n∈b3g m,n.size<=maxLen
theorem b6x {α:Type} {b:Nat} {l m:List α} (hl:l.length<=1048576) (hm:m.length<=1048576) (hb:b<=64):ap b l m=some (l++m):=b9k (by
 have : (l.length+m.length) * b<=2097152 * 64:=Nat.mul_le_mul (by omega) hb
 omega)
theorem d7y {n:Nat} (h:n<=1048576):n<=maxLen:=by simp only [maxLen]; omega
theorem g3l {α:Type} {l:List α} {k:Nat} {x:α} (hx:l[k]?=some x):l.take k++[x]=l.take (k+1):=by
 rw [List.take_add_one,hx]; rfl
def count (m:Machine):Nat->Int
 | 0=>m.States.length
 | k+1=>match m.Counters[k]? with|some c=>count m k * (c.Max+1)|none=>count m k
theorem d62 {m:Machine} (hm:OkM m):∀ k,0<=count m k/\count m k<=12 * 8 ^ k
 | 0=>by have:=hm.z.s; unfold count; simp; omega
 | k+1=>by
  obtain ⟨h0,h1⟩:=d62 hm k
  unfold count
  have hp:(8:Int) ^ (k+1)=8 ^ k * 8:=Int.pow_succ _ _
  cases hx:m.Counters[k]? with
  | none=>simp only; omega
  | some c =>
   have := hm.c c (b1d.2 ⟨k,hx⟩)
   have h2:count m k * (c.Max+1)<=count m k * 8:=Int.mul_le_mul_of_nonneg_left (by omega) h0
   exact ⟨Int.mul_nonneg h0 (by omega),by simp only; omega⟩
theorem g5p (x:Int):b6a x (-1) 0=some x:=by
 unfold b6a; simp
end
end Go.Nw.UM
namespace Go.Nw
def b5q (n:Nat) (p:Nat->Bool):Option Nat:=(List.range n).find? p
theorem d72 {n:Nat} {p:Nat->Bool}:b5q n p=none ↔ ∀ t,t<n->p t=false:=by
 unfold b5q
 rw [List.find?_eq_none]
 constructor
 ·intro h t ht; have:=h t (List.mem_range.2 ht); simpa using this
 ·intro h t ht; rw [h t (List.mem_range.1 ht)]; simp
theorem j01 {n:Nat} {p:Nat->Bool} {k:Nat} (hk:k<n) (hp:p k=true) (hb:∀ j,j<k->p j=false):b5q n p=some k:=by
 unfold b5q
 rw [List.find?_range_eq_some]
 exact ⟨hp,List.mem_range.2 hk,fun j hj=>by simp [hb j hj]⟩
theorem j00 {n:Nat} {p:Nat->Bool} {k:Nat} (h:b5q n p=some k):k<n/\p k=true/\∀ j,j<k->p j=false:=by
 unfold b5q at h
 rw [List.find?_range_eq_some] at h
 exact ⟨List.mem_range.1 h.2.1,h.1,fun j hj=>by have:=h.2.2 j hj; simpa using this⟩
theorem c7s {β:Type} {f:Int->Option (Out Int β)} {n:Nat} {p:Nat->Bool} {e:Nat->β} {u:β} (hb:∀ t:Nat,t<n->p t=true->f (t:Int)=some (.br (e t)))
  (hn : ∀ t:Nat,t<n->p t=false->f (t:Int)=some (.nx ((t:Int)+1))) (hu:f (n:Int)=some (.br u)):b0w f 0=some (match b5q n p with|some t=>e t|none=>u):=by
 have key:∀ (d k:Nat),n - k=d->k<=n->(∀ j,j<k->p j=false)->b0w f (k:Int)=some (match b5q n p with|some t=>e t|none=>u):=by
  intro d
  induction d with
  | zero =>
   intro k hd hk hj
   have : k=n:=by omega
   subst this
   rw [d72.2 hj]
   exact b3d hu
  | succ d ih =>
   intro k hd hk hj
   cases hp:p k with
   | true =>
    rw [j01 (by omega) hp hj]
    exact b3d (hb k (by omega) hp)
   | false =>
    rw [w91 (hn k (by omega) hp)]
    have := ih (k+1) (by omega) (by omega) (fun j hj'=>by
     by_cases e:j=k
     ·subst e; exact hp
     ·exact hj j (by omega))
    rwa [show ((k+1:Nat):Int)=(k:Int)+1 by omega] at this
 exact key n 0 (by omega) (by omega) fun j hj=>by omega
end Go.Nw
namespace Go.Nw.UM
noncomputable section
def o8f (m:Machine) (c:List (List Literal)) (hd:Nat->Int):Place->List Nat->Place->Prop
 | p,[],q=>p=q
 | p,x :: l,q=>x<2 ^ m.Inputs.length/\c25 m p x c=true/\o8f m c hd (nxt m p (hd x)) l q
structure Tr (m:Machine) (c:List (List Literal)) (hd:Nat->Int) (s:S3):Prop where
 z : s.1[0]?=some zero
 b : s.2.1[0]?=some (-1)
 t : ∀ (k:Nat) q,1<=k->s.1[k]?=some q->∃ (b x:Nat) (p:Place),s.2.1[k]?=some (b:Int)/\s.2.2[k]?=some (x:Int)/\b<k/\x<2 ^ m.Inputs.length/\s.1[b]?=some p/\c25 m p x c=true/\q=nxt m p (hd x)
section
variable {m:Machine} {c:List (List Literal)} {hd:Nat->Int}
end
end
end Go.Nw.UM
namespace Go.Nw.UM
noncomputable section
section
variable {m:Machine} {c:List (List Literal)} {hd:Nat->Int}
end
end
end Go.Nw.UM
namespace Go.Nw.UM
noncomputable section
abbrev idn:Nat->Int:=fun x=>(x:Int)
section
variable (m:Machine) (c:List (List Literal)) (P:List Place)
def hit (cur:List Bool) (i:Nat):Bool:=(List.range (2 ^ m.Inputs.length)).any fun j=>c25 m (P.getD i zero) j c && cur.getD (P.idxOf (nxt m (P.getD i zero) (idn j))) false
end
section
variable {m:Machine} {c:List (List Literal)} {P:List Place}
end
def d17 (m:Machine) (c rest:List (List Literal)) (p:Place):Prop:=∃ l q,o8f m c idn p l q/\b46 m q 0 rest=true
structure Calm (m:Machine) (c rest:List (List Literal)) (P:List Place) (cur:List Bool):Prop where
 n : cur.length=P.length
 s : ∀ i,i<P.length->cur.getD i false=true->d17 m c rest (P.getD i zero)
 r : ∀ i,i<P.length->b46 m (P.getD i zero) 0 rest=true->cur.getD i false=true
section
variable {m:Machine} {c rest:List (List Literal)} {P:List Place}
end
section
variable {m:Machine} {c rest:List (List Literal)} {K:Nat}
end
end
end Go.Nw.UM
namespace Go.Nw.UM
noncomputable section
open Classical in
def J24 (a:Accident):Int :=
 if ¬ OkM a.Machine then 41
 else if ¬ (b2s a.Machine true a.Assume/\∀ r∈a.Records,b2s a.Machine true r.Cond) then 42
 else if ¬ (0<=a.Ticks/\a.Ticks<=40) then 1
 else if 8<a.Records.length then 2
 else if ¬ ∀ r∈a.Records,0<=r.From/\r.From<=r.To/\r.To<a.Ticks then 102
 else 0
structure OkA (a:Accident):Prop where
 m : OkM a.Machine
 asu : b2s a.Machine true a.Assume
 rc : ∀ r∈a.Records,b2s a.Machine true r.Cond
 t : 0<=a.Ticks/\a.Ticks<=40
 n : a.Records.length<=8
 rt : ∀ r∈a.Records,0<=r.From/\r.From<=r.To/\r.To<a.Ticks
theorem u1v {a:Accident}:J24 a=0 ↔ OkA a:=by
 unfold J24
 constructor
 ·intro h
  split at h
  ·cases h
  rename_i h1
  split at h
  ·cases h
  rename_i h2
  split at h
  ·cases h
  rename_i h3
  split at h
  ·cases h
  rename_i h4
  split at h
  ·cases h
  rename_i h5
  have h2:=Classical.not_not.1 h2
  exact ⟨Classical.not_not.1 h1,h2.1,h2.2,Classical.not_not.1 h3,by omega,Classical.not_not.1 h5⟩
 ·intro h
  rw [if_neg (fun q=>q h.m),if_neg (fun q=>q ⟨h.asu,h.rc⟩),if_neg (fun q=>q h.t),if_neg (by have:=h.n; omega),if_neg (fun q=>q h.rt)]
theorem D5s {α:Type} {l:List α} {n:Nat} (h:l.length<=n) (hn:n<=1048576:=by omega):l.length<=maxLen:=by simp only [maxLen]; omega
theorem u5i {a:Accident} {f:Int->Option (Out Int (Unit ⊕ Int))} (hl:a.Records.length<=8)
  (hf : ∀ (k:Nat) r,a.Records[k]?=some r->f k=if ¬ (0<=r.From/\r.From<=r.To/\r.To<a.Ticks) then some (.br (.inr 102)) else some (.nx (wr ((k:Int)+1))))
  (fin : f (a.Records.length:Int)=some (.br (.inl ()))):((∀ r∈a.Records,0<=r.From/\r.From<=r.To/\r.To<a.Ticks)/\b0w f 0=some (.inl ()))\/((¬ ∀ r∈a.Records,0<=r.From/\r.From<=r.To/\r.To<a.Ticks)/\b0w f 0=some (.inr 102)):=by
 rcases b4j (f:=f) (l:=a.Records) (p:=fun _ r=>¬ (0<=r.From/\r.From<=r.To/\r.To<a.Ticks)) (e:=.inr 102) (u:=.inl ()) (D5s hl) (fun k x hx=>by
   refine ⟨decide (¬ (0<=x.From/\x.From<=x.To/\x.To<a.Ticks)),?_,by rw [decide_eq_true_eq]⟩
   rw [hf k x hx]; simp only [decide_eq_true_eq]) fin with ⟨h1,h2⟩|⟨⟨k,x,h1,h2⟩,h3⟩
 ·refine .inl ⟨fun r hr=>?_,h2⟩
  obtain ⟨k,hk⟩:=b1d.1 hr
  exact Classical.not_not.1 (h1 k r hk)
 ·exact .inr ⟨fun h=>h2 (h x (b1d.2 ⟨k,h1⟩)),h3⟩
theorem u6k {a:Accident} (hf:∀ n∈b3g a.Machine,n.size<=maxLen) (hn:a.Records.length<=10):u0h a=some (J24 a):=by
 unfold u0h J24
 obtain ⟨e,h1,h2⟩:=g5l hf
 rw [h1,bS9]
 rcases h2 with ⟨rfl,ho⟩|⟨rfl,ho⟩
 case inr=>rw [if_pos ho]; rfl
 rw [if_neg (by simp),if_neg (fun q=>q ho)]
 obtain ⟨b,h3,h4⟩:=d5p ho.z a.Assume
 rw [h3,bS9]
 cases b with
 | false=>rw [if_pos (by simp),if_pos (fun q=>by simpa using h4.2 q.1)]
 | true =>
  rw [if_neg (by simp)]
  rcases b4j (f:=u0i a) (l:=a.Records) (p:=fun _ r=>¬ b2s a.Machine true r.Cond) (e:=.inr 42) (u:=.inl ()) (D5s hn) (fun k x hx=>by
    have hk:=b1k hx
    obtain ⟨b,h1,h2⟩:=d5p ho.z x.Cond
    refine ⟨!b,?_,by rw [<- h2]; simp⟩
    unfold u0i
    simp only [b1h hx,bS9,Int.ofNat_lt,hk,decide_true,if_true,h1]) (by unfold u0i; simp only [Int.lt_irrefl,decide_false,fT9,if_false]) with ⟨h5,h6⟩|⟨⟨k,x,h5,h6⟩,h7⟩
  ·have hrc:∀ r∈a.Records,b2s a.Machine true r.Cond:=fun r hr=>by
    obtain ⟨k,hk⟩:=b1d.1 hr
    exact Classical.not_not.1 (h5 k r hk)
   rw [h6,bS9,if_neg (fun q=>q ⟨h4.1 rfl,hrc⟩)]
   simp only
   unfold u1w
   have hw:K5s a.Ticks 0 40=true ↔ 0<=a.Ticks/\a.Ticks<=40:=by unfold K5s; simp
   by_cases ht:0<=a.Ticks/\a.Ticks<=40
   ·rw [hw.2 ht,if_neg (by simp),if_neg (show ¬ ¬ (0<=a.Ticks/\a.Ticks<=40) from fun q=>q ht)]
    by_cases h8:8<a.Records.length
    ·rw [if_pos (by simp; omega),if_pos h8]
    ·rw [if_neg (by simp; omega),if_neg h8]
     rcases u5i (a:=a) (f:=u0j a) (by omega) (fun k x hx=>by
       have hk:=b1k hx
       unfold u0j
       simp only [b1h hx,bS9,Int.ofNat_lt,hk,decide_true,if_true]
       by_cases c:0<=x.From/\x.From<=x.To/\x.To<a.Ticks
       ·rw [if_neg (by simp; omega),if_neg (fun q=>q c)]
       ·rw [if_pos (by simp; omega),if_pos c]) (by unfold u0j; simp only [Int.lt_irrefl,decide_false,fT9,if_false]) with ⟨g1,g2⟩|⟨g1,g2⟩
     ·rw [g2,bS9,if_neg (fun q=>q g1)]; rfl
     ·rw [g2,bS9,if_pos g1]
   ·have : K5s a.Ticks 0 40=false:=by
     cases h:K5s a.Ticks 0 40 with
     | false=>rfl
     | true=>exact absurd (hw.1 h) ht
    rw [this,if_pos (by simp),if_pos ht]
  ·rw [h7,bS9,if_pos (fun q=>h6 (q.2 x (b1d.2 ⟨k,h5⟩)))]
theorem u4j {a:Accident} (hf:∀ n∈b3g a.Machine,n.size<=maxLen) (hn:a.Records.length<=10):s9r a=some (J24 a):=by
 unfold s9r
 have hl:b0w (s9s a) ([a.Assume],0)=some (a.Assume :: a.Records.map (·.Cond)):=by
  refine b4h (f:=s9s a) a.Records.length (fun s k=>(s,k)) (fun k=>a.Assume :: (a.Records.take k).map (·.Cond)) _ (by simp) (fun k hk=>?_) ?_
  ·obtain ⟨x,hx⟩:=b3b hk
   unfold s9s
   simp only [b1h hx,bS9,Int.ofNat_lt,hk,decide_true,if_true]
   rw [b6d (by simp; omega) (by simp) (by omega),bS9,b2r hk (D5s hn),<- g3l hx]
   simp
  ·unfold s9s
   simp only [Int.lt_irrefl,decide_false,fT9,if_false,List.take_length]
 rw [hl,bS9]
 unfold u11 J24
 obtain ⟨e,h1,h2⟩:=d5s hf (l:=a.Assume :: a.Records.map (·.Cond)) (by simp; omega)
 rw [h1,bS9]
 have hcs:(∀ c∈a.Assume :: a.Records.map (·.Cond),b2s a.Machine true c) ↔ (b2s a.Machine true a.Assume/\∀ r∈a.Records,b2s a.Machine true r.Cond):=by simp
 rcases h2 with ⟨rfl,ho,hc⟩|⟨rfl,ho⟩|⟨rfl,ho,c,hc,hn⟩
 ·rw [if_neg (by simp),if_neg (show ¬ ¬ OkM a.Machine from fun q=>q ho),if_neg (show ¬ ¬ (b2s a.Machine true a.Assume/\∀ r∈a.Records,b2s a.Machine true r.Cond) from fun q=>q (hcs.1 hc))]
  have hw:b98 a.Ticks 0 40=true ↔ 0<=a.Ticks/\a.Ticks<=40:=by unfold b98; simp
  by_cases ht:0<=a.Ticks/\a.Ticks<=40
  ·rw [hw.2 ht,if_neg (by simp),if_neg (show ¬ ¬ (0<=a.Ticks/\a.Ticks<=40) from fun q=>q ht)]
   by_cases h8:8<a.Records.length
   ·rw [if_pos (by simp; omega),if_pos h8]
   ·rw [if_neg (by simp; omega),if_neg h8]
    rcases u5i (a:=a) (f:=u01 a) (by omega) (fun k x hx=>by
      have hk:=b1k hx
      unfold u01 b98
      simp only [b1h hx,bS9,Int.ofNat_lt,hk,decide_true,if_true]
      by_cases c:0<=x.From/\x.From<=x.To/\x.To<a.Ticks
      ·rw [if_neg (by simp; omega),if_neg (fun q=>q c)]
      ·rw [if_pos (by simp; omega),if_pos c]) (by unfold u01; simp only [Int.lt_irrefl,decide_false,fT9,if_false]) with ⟨g1,g2⟩|⟨g1,g2⟩
    ·rw [g2,bS9,if_neg (fun q=>q g1)]; rfl
    ·rw [g2,bS9,if_pos g1]
  ·have : b98 a.Ticks 0 40=false:=by
    cases h:b98 a.Ticks 0 40 with
    | false=>rfl
    | true=>exact absurd (hw.1 h) ht
   rw [this,if_pos (by simp),if_pos ht]
 ·rw [if_pos (by simp),if_pos ho]
 ·rw [if_pos (by simp),if_neg (fun q=>q ho),if_pos (fun q=>hn (hcs.2 q c hc))]
theorem u9r (a:Accident) (t:Theory):u0l a t=l59 a t:=rfl
def OkT (a:Accident) (t:Theory):Prop:=l59 a t=true
def b32 (a:Accident) (t:Theory):Int:=if J24 a=0 then (if l59 a t then 0 else 1) else J24 a
theorem u27 {a:Accident} {t:Theory}:b32 a t=0 ↔ OkA a/\OkT a t:=by
 unfold b32 OkT
 rw [<- u1v]
 by_cases h:J24 a=0
 ·rw [if_pos h]; cases l59 a t <;> simp [h]
 ·rw [if_neg h]; simp [h]
theorem u23 {a:Accident} {t:Theory} (hf:∀ n∈b3g a.Machine,n.size<=maxLen) (hn:a.Records.length<=10):s9j a t=some (b32 a t):=by
 unfold s9j b32
 rw [u6k hf hn,bS9,u9r]
 by_cases h:J24 a=0
 ·rw [if_neg (by simp [h]),if_pos h]; cases l59 a t <;> simp
 ·rw [if_pos (by simp [h]),if_neg h]
theorem u24 {a:Accident} {t:Theory} (hf:∀ n∈b3g a.Machine,n.size<=maxLen) (hn:a.Records.length<=10):y9g a t=some (b32 a t):=by
 unfold y9g b32
 rw [u4j hf hn,bS9]
 by_cases h:J24 a=0
 ·rw [if_neg (by simp [h]),if_pos h]; cases l59 a t <;> simp
 ·rw [if_pos (by simp [h]),if_neg h]
structure Small (a:Accident):Prop where
 ok : OkA a
 i : a.Machine.Inputs.length<=2
 t : a.Ticks<=6
 n : a.Records.length<=5
theorem u6h {a:Accident} (hf:∀ n∈b3g a.Machine,n.size<=maxLen):s9o a=some true\/(a.Records.length<=10/\s9o a=some false/\(J24 a≠0\/Small a)):=by
 unfold s9o
 by_cases h10:10<a.Records.length
 ·rw [if_pos (by simp; omega)]; exact .inl rfl
 rw [if_neg (by simp; omega),u4j hf (by omega),bS9]
 by_cases h:J24 a=0
 case neg=>rw [if_pos (by simp [h])]; exact .inr ⟨by omega,rfl,.inl h⟩
 rw [if_neg (by simp [h])]
 have ho:=u1v.1 h
 have hm:=ho.m
 have hc:=hm.z.c
 have hb:∀ k,k<=a.Machine.Counters.length->0<=count a.Machine k/\count a.Machine k<=768:=fun k hk=>by
  obtain ⟨h0,h1⟩:=d62 hm k
  have : k=0\/k=1\/k=2:=by omega
  rcases this with rfl|rfl|rfl <;> simp at h1 <;> omega
 have := b4h (f:=u0v a) a.Machine.Counters.length (fun (s:Int) k=>(s,k)) (count a.Machine) (count a.Machine a.Machine.Counters.length) (s0:=(a.Machine.States.length:Int)) rfl (fun k hk=>by
   obtain ⟨x,hx⟩:=b3b hk
   have hM:=hm.c x (b1d.2 ⟨k,hx⟩)
   have h3:=hb k (by omega)
   have h4:=hb (k+1) (by omega)
   have e:count a.Machine (k+1)=count a.Machine k * (x.Max+1):=by conv=>lhs; unfold count; rw [hx]
   unfold u0v
   simp only [Int.ofNat_lt,hk,decide_true,if_true,b1h hx,bS9]
   rw [b2r hk (D5s hc),b3t (by omega : -9223372036854775808<=x.Max+1) (by omega),<- e,b3t (by omega) (by omega)]) (by
   unfold u0v
   simp only [Int.lt_irrefl,decide_false,fT9,if_false])
 rw [this,bS9]
 unfold u1y
 cases hd:(((decide (2<(List.length a.Machine.Inputs:Int))) || (decide (24<count a.Machine a.Machine.Counters.length))) || (decide (6<a.Ticks))) || (decide (5<(List.length a.Records:Int))) with
 | true=>exact .inl rfl
 | false =>
  simp only [Bool.or_eq_false_iff,decide_eq_false_iff_not] at hd
  exact .inr ⟨by omega,rfl,.inr ⟨ho,by omega,by omega,by omega⟩⟩
structure FewA (a:Accident):Prop where
 m : FewM a.Machine
 asu : d02 a.Assume
 r : ∀ r∈a.Records,d02 r.Cond
end
end Go.Nw.UM
namespace Go.Nw
def lle:List Nat->List Nat->Prop
 | [],_=>True
 | _ :: _,[]=>False
 | x :: xs,y :: ys=>x<y\/(x=y/\lle xs ys)
theorem u5c:∀ {a b:List Nat},lle a b->lle b a->a=b
 | [],[],_,_=>rfl
 | [],_ :: _,_,h=>h.elim
 | _ :: _,[],h,_=>h.elim
 | x :: xs,y :: ys,h1,h2=>by
  rcases h1 with h1|⟨rfl,h1⟩ <;> rcases h2 with h2|⟨h3,h2⟩
  ·omega
  ·omega
  ·omega
  ·rw [u5c h1 h2]
def Lst (P:List Nat->Prop) (l:List Nat):Prop:=P l/\∀ l',P l'->lle l l'
theorem u8w {P:List Nat->Prop} {a b:List Nat} (h1:Lst P a) (h2:Lst P b):a=b:=u5c (h1.2 b h2.1) (h2.2 a h1.1)
section
variable {σ:Type} (tr:σ->Nat->Option σ) (fin:σ->Bool) (N:Nat)
def Acc:List Nat->σ->Prop
 | [],m=>fin m=true
 | x :: xs,m=>fin m=false/\x<N/\∃ m',tr m x=some m'/\Acc xs m'
variable {tr fin N}
variable {rank:σ->Nat} (hr:∀ m x m',fin m=false->tr m x=some m'->rank m'<rank m)
include hr
end
end Go.Nw
