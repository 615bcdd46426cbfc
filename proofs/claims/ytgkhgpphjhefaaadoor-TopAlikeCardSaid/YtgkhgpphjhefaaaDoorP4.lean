/- Plain laws on the models. -/
import Derived.Test.YtgkhgpphjhefaaaDoorP1
import Derived.Test.YtgkhgpphjhefaaaDoorR1
import Derived.Test.YtgkhgpphjhefaaaDoorP3
import Derived.Test.YtgkhgpphjhefaaaDoorP2
set_option linter.all false
namespace Go.Nw
open Go.Proofs
variable [Cfg]
def K63 (x:Int × Int × Int):Scal Tryd.prog:=⟨.agg [.v (.int .i64 x.1),.v (.int .i64 x.2.1),.v (.int .i64 x.2.2)],.agg #[.int .i64 x.1,.int .i64 x.2.1,.int .i64 x.2.2],fun w S h loc=>by
 refine .agg _ _ rfl (fun i hi=>?_) (fun i c hc=>?_)
 ·match i,hi with
  | 0,_=>rfl
  | 1,_=>rfl
  | 2,_=>rfl
  | k+3,hi=>simp at hi; omega
 ·match i,hc with
  | 0,hc=>cases hc; exact .v _
  | 1,hc=>cases hc; exact .v _
  | 2,hc=>cases hc; exact .v _
  | k+3,hc=>simp at hc⟩
theorem L2t {id:FuncId} {fn:Func} (hf:Tryd.prog.funcs[id]?=some fn) (hn:fn.name = "newel/faults.theories$1"):id=87:=by
 have hu:(Tryd.prog.funcs.toList.zipIdx.all fun p=>p.1.name != "newel/faults.theories$1" || p.2 == 87)=true:=by kernel_rfl
 have h1:(fn,id)∈Tryd.prog.funcs.toList.zipIdx:=by
  rw [List.mem_zipIdx_iff_getElem?]
  simpa using hf
 have h2:=List.all_eq_true.1 hu _ h1
 simp only [Bool.or_eq_true,bne_iff_ne,ne_eq,beq_iff_eq] at h2
 rcases h2 with h2|h2
 ·exact absurd hn h2
 ·exact h2
theorem K80 (V:Int × Int × Int->Prop) (cells:List AV) (sz I T:Nat) (es:List (List AV)) (h0:cells[0]?=some (.fs sz es)) (hI:es.length=I) (h6:cells[6]?=some (.v (.int .i64 T))) (hI1:I<1000) (hT1:T<1000)
  (hV0 : V (-1,0,0)) (hV:∀ i v t:Nat,i<I->v<2->t<T->V ((i:Int),(v:Int),(t:Int))) (xs:List { x // V x }) (hxs:xs.map (·.1)=c63 T I) :
  K6d Tryd.prog (fun x:{ x // V x }=>K63 x.1) "newel/faults.theories$1" [.fp cells 0] xs:=by
 intro id fn hfn hname w S us hSlt hLd hsz hv
 have hid:id=87:=L2t hfn hname
 subst hid
 have hb:=hv 0 _ rfl
 have hus:us=#[us.getD 0 undef]:=by
  apply Array.ext
  ·simpa using hsz
  ·intro i h1 h2
   have : i=0:=by simp at h2; omega
   subst this
   simp [Array.getD,h1]
 generalize us.getD 0 undef=u0 at hb hus
 subst hus
 cases hb with
 | fp _ _ b o hS val hc h1 hv' =>
 have c0:=hc 0 _ h0
 have c6:=hc 6 _ h6
 have v0:=hv' 0 _ h0
 have v6:=hv' 6 _ h6
 have e6:val 6 = .int .i64 T:=by generalize val 6=q at v6; cases v6; rfl
 rw [e6] at c6
 obtain ⟨a0,cap,e0⟩:∃ a0 cap,val 0 = .slice a0 I cap:=by
  generalize val 0=q at v0
  subst hI
  cases v0 with
  | fsNil sz=>exact ⟨none,0,rfl⟩
  | fsE sz a cap=>exact ⟨some a,cap,rfl⟩
  | fs sz es b o cap=>exact ⟨_,cap,rfl⟩
 rw [e0] at c0
 intro l J Jx W hbel hJ hJx hY hst
 have hsame:∀ k,S k->W.heap[k]?=w.heap[k]?:=fun k hk=>hbel.block k (hSlt k hk)
 have hlen:xs.length=1+I * (2 * T):=by
  have := congrArg List.length hxs
  rw [List.length_map,K6m] at this
  exact this
 have key:=L2x Fence.wide 2 trivial rfl (by omega) l b o I T cap a0 hI1 hT1 S hS (fun pre W=>∃ pre':List { x // V x },pre=pre'.map (·.1)/\J pre' W) (fun pre W=>∃ pre':List { x // V x },Jx pre' W) V hV0 hV (fun pre x W1 hx hj hl=>?_) W ?_ ?_ ⟨[],rfl,hst⟩
 ·refine key.mono ?_
  rintro e W' ⟨h1,⟨ys,rfl,pre',hp,hj⟩|⟨_,_,pre',hj⟩⟩
  ·refine ⟨h1,.inl ⟨pre',?_,hj⟩⟩
   have hinj:∀ a b:List { x // V x },a.map (·.1)=b.map (·.1)->a=b:=by
    intro a
    induction a with
    | nil=>intro b h; cases b with
     | nil=>rfl
     | cons y b=>simp at h
    | cons x a ih=>intro b h; cases b with
     | nil=>simp at h
     | cons y b =>
      simp only [List.map_cons,List.cons.injEq] at h
      rw [Subtype.ext h.1,ih b h.2]
   exact hinj _ _ (hp.symm.trans hxs.symm)
  ·exact ⟨h1,.inr ⟨pre',trivial,hj⟩⟩
 ·obtain ⟨pre',rfl,hj⟩:=hj
  obtain ⟨fn,tmps,assign,body,hy,hR⟩:=hY pre' ⟨x,hx⟩ W1 hj (by rw [hlen]; simpa using hl)
  refine ⟨fn,tmps,assign,body,hy,hR.mono ?_⟩
  rintro e W' (⟨rfl,g1,g2⟩|⟨rfl,g1⟩)
  ·exact .inl ⟨rfl,⟨pre'++[⟨x,hx⟩],by simp,g1⟩,g2⟩
  ·exact .inr ⟨rfl,⟨_,g1⟩⟩
 ·rw [K6f (hsame b hS)]; exact c0
 ·rw [K6f (hsame b hS)]; exact c6
end Go.Nw
namespace Go.Nw.UM
open Go.Proofs Go.Nw.Tp2
set_option maxHeartbeats 4000000
set_option maxRecDepth 100000
namespace Th
@[go_sem] def y0:List XO:=[
 ⟨(some 1),none,.boxF (.t 0)⟩,
 ⟨(some 2),none,.mv (.c (.slice none 0 0))⟩,
 ⟨(some 3),none,.mv (.c (.int .i64 0))⟩]
@[go_sem] def y1:List XO:=[
 ⟨(some 9),none,.load true 8 (.tf 1)⟩,
 ⟨(some 10),none,.call "newel/faults.accident" [(.t 9)]⟩,
 ⟨(some 4),none,.mv (.t 10)⟩]
@[go_sem] def y2:List XO:=[
 ⟨(some 11),none,.mv (.t 4)⟩,
 ⟨(some 12),none,.bin .neq .no (.t 11) (.c (.int .i64 0))⟩]
@[go_sem] def y3:List XO:=[
 ⟨(some 13),none,.mv (.t 4)⟩,
 ⟨(some 2),none,.mv (.c (.slice none 0 0))⟩,
 ⟨(some 3),none,.mv (.t 13)⟩]
@[go_sem] def y4:List XO:=[
 ⟨(some 5),none,.alloc [(.slice none 0 0)]⟩]
@[go_sem] def y5:List XO:=[
 ⟨(some 14),none,.load true 8 (.tf 1)⟩,
 ⟨(some 15),none,.call "newel/faults.theories" [(.t 14)]⟩]
@[go_sem] def y6:List XO:=[
 ⟨(some 6),none,.alloc [(.int .i64 0),(.int .i64 0),(.int .i64 0)]⟩,
 ⟨none,none,.store 3 (.t 6) (.t 16)⟩]
@[go_sem] def y7:List XO:=[
 ⟨(some 18),none,.load true 8 (.tf 1)⟩,
 ⟨(some 19),none,.load true 3 (.t 6)⟩,
 ⟨(some 20),none,.call "newel/faults.search" [(.t 18),(.t 19),(.c (.slice none 0 0))]⟩,
 ⟨(some 17),none,.mv (.t 20)⟩,
 ⟨(some 21),none,.ext (.t 17) 0⟩,
 ⟨(some 22),none,.ext (.t 17) 1⟩,
 ⟨(some 7),none,.mv (.t 21)⟩,
 ⟨(some 8),none,.mv (.t 22)⟩]
@[go_sem] def y8:List XO:=[
 ⟨(some 23),none,.mv (.t 8)⟩]
@[go_sem] def y9:List XO:=[
 ⟨(some 24),none,.load false 1 (.t 5)⟩,
 ⟨(some 25),none,.load true 3 (.t 6)⟩,
 ⟨(some 26),none,.bsl 3 [(.t 25)]⟩,
 ⟨(some 27),none,.app 3 24 (.t 24) (.t 26)⟩,
 ⟨none,none,.store 1 (.t 5) (.t 27)⟩]
@[go_sem] def y10:List XO:=[
 ⟨(some 28),none,.load false 1 (.t 5)⟩,
 ⟨(some 2),none,.mv (.t 28)⟩,
 ⟨(some 3),none,.mv (.c (.int .i64 0))⟩]
def y:YCode :=
 (.seq (.leaf (.reg y0)) (.seq (.leaf (.seq (.reg y1) (.seq (.reg y2) (.cond (.t 12) (.seq (.reg y3) .ret) .skip)))) (.seq (.leaf (.reg y4)) (.seq (.seq (.leaf (.reg y5)) (.block 0 (.range (.t 15) 16 (.reg y6) (.block 1 (.seq (.reg y7) (.seq (.reg y8) (.cond (.t 23) (.reg y9) .skip))))))) (.leaf (.seq (.reg y10) .ret))))))
abbrev O:Orac:=b0n Tryd.prog
def toT (x:Int × Int × Int):Theory:=⟨x.1,x.2.1,x.2.2⟩
theorem K68 (n T:Nat):(c63 T n).map toT=l10 n T:=by
 simp [c63,s96,K45,l10,toT,List.map_flatMap,Function.comp_def]
theorem K7s (a:Accident):∀ (l:List Theory) {t:Theory} {r:List Theory} {s:List Int × Bool},J34 a l=some r->u0k a t=some s->J34 a (l++[t])=some (r++if s.2 then [t] else [])
 | [],t,r,s,h,hs=>by
  cases h
  simp only [List.nil_append,J34,hs,bS9]
 | x :: l,t,r,s,h,hs=>by
  simp only [J34,List.cons_append] at h ⊢
  obtain ⟨q,hq,h⟩:=b0g h
  obtain ⟨m,hm,h⟩:=b0g h
  rw [hq,bS9,K7s a l hm hs,bS9]
  rw [<- Option.some.inj h]
  by_cases hb:q.2 <;> simp [hb]
theorem K7r (a:Accident):∀ {l:List Theory} {r:List Theory},J34 a l=some r->∀ t∈l,∃ s,u0k a t=some s
 | [],_,_,t,ht=>by simp at ht
 | x :: l,r,h,t,ht=>by
  simp only [J34] at h
  obtain ⟨q,hq,h⟩:=b0g h
  obtain ⟨m,hm,h⟩:=b0g h
  rcases List.mem_cons.1 ht with rfl|ht
  ·exact ⟨q,hq⟩
  ·exact K7r a hm t ht
theorem K7l {α:Type} (V:α->Prop):∀ l:List α,(∀ x∈l,V x)->∃ xs:List { x // V x },xs.map (·.1)=l
 | [],_=>⟨[],rfl⟩
 | x :: l,h=>by
  obtain ⟨xs,e⟩:=K7l V l fun y hy=>h y (List.mem_cons_of_mem _ hy)
  exact ⟨⟨x,h x List.mem_cons_self⟩ :: xs,by simp [e]⟩
theorem K7q (a:Accident):∀ {l:List Theory} {r:List Theory},J34 a l=some r->r.length<=l.length
 | [],_,h=>by cases h; simp
 | x :: l,r,h=>by
  simp only [J34] at h
  obtain ⟨q,hq,h⟩:=b0g h
  obtain ⟨m,hm,h⟩:=b0g h
  have := K7q a hm
  rw [<- Option.some.inj h]
  split <;> simp <;> omega
theorem K5u {h:Heap} {n:Nat} {rows:List (List AV)} (hm:b67 h) (hn:n≠0):b67 (h.new (n,rows)):=by
 intro id es he
 simp only [Heap.new] at he
 split at he
 ·cases he; exact hn rfl
 ·exact hm id es he
theorem K6g {h:Heap} {i n:Nat} {rows:List (List AV)} (hm:b67 h) (hn:n≠0):b67 (h.upd i (some (n,rows))):=by
 intro id es he
 simp only [Heap.upd] at he
 split at he
 ·cases he; exact hn rfl
 ·exact hm id es he
theorem K8t {h:Heap} {i:Nat} (hm:b67 h):b67 (h.upd i none):=by
 intro id es he
 simp only [Heap.upd] at he
 split at he
 ·cases he
 ·exact hm id es he
theorem K8s {h:Heap} {v:AV} {n:Nat} {rows:List (List AV)} (hm:b67 h) (hn:n≠0):b67 (b5y h v (n,rows)):=by
 unfold b5y
 split
 ·exact K5u (K8t hm) hn
 ·exact K5u hm hn
theorem K7h:b67 Heap.empty:=fun _ _ h=>by cases h
structure J (a:Accident) (b:Nat) (pre:List Theory) (h:Heap):Prop where
 nm : b67 h
 bl : b<h.nx
 ex : ∃ v l,h.ob b=some (1,[[v]])/\b2a h v 3 (List.map u26 l)/\b07 v b/\J34 a pre=some l
theorem K7d {O:Orac} {c:X} {p q:XCode} {Q:XExit->Slots->Heap->Prop} {t:Slots} {h:Heap} {x:Bool} (hc:evT t c=B x) (h1:x=true->cw O p Q t h) (h2:x=false->cw O q Q t h):cw O (.cond c p q) Q t h:=by
 rw [g9i,hc]
 exact ⟨x,rfl,h1,h2⟩
theorem K8g {P:Program} {O:Orac} {c:YCode} {Q:XExit->Slots->Heap->Prop} {t:Slots} {h:Heap} (p:Slots->Heap->Prop) (hp:p t h) (hw:∀ t h,p t h->cwY P O c Q t h):cwY P O c Q t h:=hw t h hp
variable {a:Accident}
theorem frA (a:Accident):∀ c∈aA a,Frz c:=(b0a (b0c fun a _=>b0z a) (b0a (b0c fun a _=>b0z a) (b0a (b0c fun a _=>b1q a) (b0a (b0c fun a _=>b1s a) (b0a (b0c fun a _=>b1r a) (b0a (b0c fun a _=>b2j a) (b0a (b0e _) (b0a (b0c fun a _=>c17 a) b0j))))))))
theorem K8q (hf:Has O "newel/faults.theories" x_faults_theories) (a:Accident):Fn O "newel/faults.theories" [.agg (aA a)] (.fn "newel/faults.theories$1" [] [.fp (aA a) 0]):=by
 refine b1i hf rfl (b0a (.agg _ (frA a)) b0j) (.fn _ _ _ b0j (b0a (.fp _ _ (frA a)) b0j)) ?_
 refine b1c (fun t h=>t 0 = .agg (aA a)) rfl fun t h s0=>?_
 simp only [x_faults_theories]
 refine b0b fun K hK=>?_
 simp only [go_sem,s0]
 refine hK _ _ ?_
 clear hK K
 refine b0b fun K hK=>?_
 simp only [go_sem]
 refine hK _ _ ?_
 clear hK K
 simp only [b0x,b1p,b0y]
 exact b8e (v:=.fn "newel/faults.theories$1" [] [.fp (aA a) 0]) (by simp only [go_sem]) (.refl _ (.fn _ _ _ b0j (b0a (.fp _ _ (frA a)) b0j)))
theorem V0 (n T:Nat):((-1:Int),(0:Int),(0:Int))∈c63 T n:=by simp [c63]
theorem V1 {n T i v t:Nat} (hi:i<n) (hv:v<2) (ht:t<T):((i:Int),(v:Int),(t:Int))∈c63 T n:=by
 simp only [c63,s96,K45,List.mem_cons,List.mem_flatMap,List.mem_map,List.mem_range]
 exact .inr ⟨i,hi,v,hv,t,ht,rfl⟩
theorem K8o (k1:u2l O) (k2:s97 O) (k3:∀ a:Accident,Fn O "newel/faults.theories" [.agg (aA a)] (.fn "newel/faults.theories$1" [] [.fp (aA a) 0])):K6c O:=by
 intro a r hm0
 unfold K5r at hm0
 refine K8i 25 [1] [] Tryd.func25 (by kernel_rfl) (c:=_) rfl (y:=y) (by kernel_rfl) (res:=[.t 2,.t 3]) (by kernel_rfl) rfl (b0a (.agg _ (frA a)) b0j) (.tup _ (b0a (b0c fun a _=>x5h a) (b0a (b0e _) b0j))) ?_
 obtain ⟨e,he,hm0⟩:=b0g hm0
 generalize hQ:(fun (e:XExit) (t:Slots) (h:Heap)=>match e with | .exit _=>False|_=>b4b [.t 2,.t 3] (.tup [.fs 3 (List.map u26 r.1),I r.2]) [] ⟨t,h⟩/\b67 h)=Q
 have Qret:∀ t h,b4b [.t 2,.t 3] (.tup [.fs 3 (List.map u26 r.1),I r.2]) [] ⟨t,h⟩->b67 h->Q .ret t h:=fun t h h1 h2=>by subst hQ; exact ⟨h1,h2⟩
 clear hQ
 unfold y
 rw [K90,K88]
 refine b1c (fun t h=>t 0 = .agg (aA a)/\h=Heap.empty) ⟨rfl,rfl⟩ fun t h ⟨s0,hh⟩=>?_
 subst hh
 refine b03 fun K hK=>?_
 simp only [go_sem,s0]
 refine hK _ _ ?_
 clear hK K
 simp only [b0f]
 rw [K90,K88]
 refine b0b fun K hK=>?_
 simp only [go_sem]
 refine b01 (k1 a e he) ?_
 simp only [go_sem]
 refine hK _ _ ?_
 clear hK K
 refine b0b fun K hK=>?_
 simp only [go_sem]
 refine hK _ _ ?_
 clear hK K
 refine K7d (x:=!(decide (e=0))) (by simp only [go_sem,decide_not]) (fun hc=>?_) (fun hc=>?_)
 ·rw [if_pos hc] at hm0
  obtain rfl:=Option.some.inj hm0
  refine b0b fun K hK=>?_
  simp only [go_sem]
  refine hK _ _ ?_
  clear hK K
  simp only [b0x,b1p]
  exact Qret _ _ (d66 (v:=nilS) (u:=I e) (by simp only [go_sem]) (by simp only [go_sem]) (.nil _) (.refl _ (b0e _))) K7h
 rw [if_neg (by rw [hc]; simp)] at hm0
 split at hm0
 case isFalse=>cases hm0
 rename_i hb
 obtain ⟨hb1,hb2,hb3⟩:=hb
 obtain ⟨l,hl,hm0⟩:=b0g hm0
 obtain rfl:=Option.some.inj hm0
 simp only [b0s,b0f]
 rw [K90,K88]
 refine b03 fun K hK=>?_
 simp only [go_sem]
 refine hK _ _ ?_
 clear hK K
 simp only [b0f]
 rw [K90,K90,K88]
 refine b03 fun K hK=>?_
 simp only [go_sem]
 refine b01 (k3 a) ?_
 simp only [go_sem]
 refine hK _ _ ?_
 clear hK K
 simp only [b0f]
 rw [K8e]
 obtain ⟨T,hT⟩:∃ T:Nat,a.Ticks=T:=⟨a.Ticks.toNat,by omega⟩
 have hT2:a.Ticks.toNat=T:=by omega
 rw [hT2] at hl
 obtain ⟨xs,hxs⟩:=K7l (fun x=>x∈c63 T a.Machine.Inputs.length) (c63 T a.Machine.Inputs.length) fun x hx=>hx
 have hlen:xs.length=1+a.Machine.Inputs.length * (2 * T):=(List.length_map _).symm.trans ((congrArg List.length hxs).trans (K6m _ _))
 have hxl:xs.length<=2000000:=by
  rw [hlen]
  have : a.Machine.Inputs.length * (2 * T)<=999 * (2 * 999):=Nat.mul_le_mul (by omega) (by omega)
  omega
 refine K8g (fun t h=>∃ b,t 1 = .fp (aA a) 0/\t 5 = .rp b 0 0/\t 15 = .fn "newel/faults.theories$1" [] [.fp (aA a) 0]/\J a b [] h) ⟨0,by simp only [go_sem],by simp only [go_sem]; rfl,by simp only [go_sem],K5u K7h (by decide),Nat.zero_lt_one,nilS,[],rfl,c0o,trivial,rfl⟩ ?_
 rintro t h ⟨b,s1,s5,s15,hJ0⟩
 refine K8f (fun x=>K63 x.1) (J:=fun pre h=>J a b (pre.map fun x=>toT x.1) h) (f := "newel/faults.theories$1") (cs:=[.fp (aA a) 0]) (xs:=xs) s15 (b0a (.fp _ _ (frA a)) b0j) ?_ (fun k h hj=>hj.nm) hJ0 ?_ ?_
 ·exact K80 _ (aA a) 1 a.Machine.Inputs.length T (List.map eS a.Machine.Inputs) rfl (List.length_map _) (by rw [<- hT]; rfl) hb1 (by omega) (V0 _ _) (fun i v t h1 h2 h3=>V1 h1 h2 h3) xs hxs
 ·intro pre x h1 hlt hj
  clear hJ0 s15
  obtain ⟨v,l1,hob,how,hnv,hth⟩:=hj.ex
  have hnm:=hj.nm
  have hbl:=hj.bl
  have hl1:=K7q a hth
  rw [List.length_map] at hl1
  obtain ⟨s,hs⟩:∃ s,u0k a (toT x.1)=some s:=K7r a hl _ (by rw [<- K68]; exact List.mem_map.2 ⟨x.1,x.2,rfl⟩)
  have hsn:=K7s a _ hth hs
  obtain ⟨⟨x1,x2,x3⟩,hx⟩:=x
  have hr:ap 24 l1 [toT (x1,x2,x3)]=some (l1++[toT (x1,x2,x3)]):=b9k (by simp only [List.length_cons,List.length_nil]; omega)
  generalize hrd:l1++[toT (x1,x2,x3)]=r at hr
  refine b03 fun K hK=>?_
  simp only [go_sem,K63]
  refine hK _ _ ?_
  clear hK K
  simp only [b0f]
  refine ⟨K6g (K5u hnm (by decide)) (by decide),?_⟩
  rw [b0u]
  refine b0b fun K hK=>?_
  simp only [go_sem,s1]
  refine r2x ?_ (b0a (.agg _ (frA a)) (b0a (.agg _ (b0a (b0e _) (b0a (b0e _) (b0a (b0e _) b0j)))) (b0a (b0e _) b0j))) (k2 a ⟨x1,x2,x3⟩ s hs) ?_
  ·exact .cons (.refl _ (.agg _ (frA a))) (.cons (.refl _ (.agg _ (b0a (b0e _) (b0a (b0e _) (b0a (b0e _) b0j))))) (.cons (.nil _) .nil))
  simp only [go_sem]
  refine hK _ _ ?_
  clear hK K
  refine b0b fun K hK=>?_
  simp only [go_sem]
  refine hK _ _ ?_
  clear hK K
  refine K7d (x:=s.2) (by simp only [go_sem]) (fun hc=>?_) (fun hc=>?_)
  ·refine b03 fun K hK=>?_
   simp only [go_sem,s5,hob,hbl]
   refine b3a (f:=u26) (l:=l1) (m:=[toT (x1,x2,x3)]) ?_ ?_ ?_ ?_ hr ?_
   ·exact b3x how (by intro j hj hl; first|rfl|simp only [go_sem,hl]) (by simp only [go_sem,nxs]; omega)
   ·exact b4t (by simp only [go_sem,toT,List.map_cons,List.map_nil]) (by simp)
   ·exact b4r (b1v how (by simp only [go_sem,nxs]; omega))
   ·exact fun _=>by simp
   simp only [go_sem,s5,hob,hbl,hnv]
   refine hK _ _ ?_
   clear hK K
   simp only [b02,b0f]
   refine ⟨?_,?_,_,r,c53 rfl,b2v (by simp only [go_sem,hbl]) (by simp) (by simp only [go_sem]),?_,?_⟩
   ·exact K6g (K8s (K5u (K6g (K5u hnm (by decide)) (by decide)) (by decide)) (by decide)) (by decide)
   ·simp only [go_sem,nxs]; omega
   ·refine b1y ?_
    simp only [go_sem,nxs]; omega
   ·rw [List.map_append,List.map_cons,List.map_nil,hsn,hc,if_pos rfl,hrd]
  ·simp only [b0s,b02,b0f]
   refine ⟨?_,?_,v,l1,by simp only [go_sem,hob,hbl],b3x how (by intro j hj hl; first|rfl|simp only [go_sem,hl]) (by simp only [go_sem,nxs]; omega),hnv,?_⟩
   ·exact K6g (K5u hnm (by decide)) (by decide)
   ·simp only [go_sem,nxs]; omega
   ·rw [List.map_append,List.map_cons,List.map_nil,hsn,hc,if_neg (by simp),List.append_nil]
 ·intro h' hj
  clear hJ0
  obtain ⟨v,l1,hob,how,hnv,hth⟩:=hj.ex
  have exs:xs.map (fun x=>toT x.1)=l10 a.Machine.Inputs.length T:=(List.map_map (f:=fun x:{ x // x∈c63 T a.Machine.Inputs.length }=>x.1) (g:=toT) (l:=xs)).symm.trans ((congrArg (List.map toT) hxs).trans (K68 _ _))
  rw [exs,hl] at hth
  obtain rfl:=Option.some.inj hth
  simp only [b02,b0f]
  rw [K88]
  refine b0b fun K hK=>?_
  simp only [go_sem,s5,hob,b5r v]
  refine hK _ _ ?_
  clear hK K
  simp only [b0x,b1p,b2e]
  exact Qret _ _ (d66 (v:=v) (u:=I 0) (by simp only [go_sem]) (by simp only [go_sem]) (r8x (f:=u26) how x5h x6w) (.refl _ (b0e _))) hj.nm
end Th
open Th
theorem K6r (hf:Has O "newel/faults.theories" x_faults_theories) (u3k:u2l O) (u0r:s97 O):K6c O:=by
 exact K8o u3k u0r (K8q hf)
end Go.Nw.UM
namespace Go.Nw
section
variable {π:Type} (From To:Nat->Nat) (Al:Nat->Bool) (hold:Nat->π->Nat->Bool) (st:Nat->π->Nat->π) (ok:Nat->π->Nat->Bool) (N:Nat)
def s9c:Nat->π->List Nat->Prop
 | _,_,[]=>True
 | t,p,x :: xs=>x<N/\ok t p x=true/\s9c (t+1) (st t p x) xs
def Rem (i:Nat):Nat->Bool->π->List Nat->Prop
 | _,_,_,[]=>True
 | t,b,p,x :: xs =>
  if From i<=t/\t<=To i then
   (if Al i=true then hold i p x=true/\Rem i (t+1) b (st t p x) xs
    else if t=To i then (b || hold i p x)=true/\Rem i (t+1) false (st t p x) xs
    else Rem i (t+1) (b || hold i p x) (st t p x) xs)
  else Rem i (t+1) b (st t p x) xs
def b69 (i:Nat):Nat->Bool->π->List Nat->Prop
 | _,b,_,[]=>Al i=true\/b=true
 | t,b,p,x :: xs =>
  if From i<=t/\t<=To i then
   (if Al i=true then hold i p x=true/\b69 i (t+1) b (st t p x) xs else b69 i (t+1) (b || hold i p x) (st t p x) xs)
  else b69 i (t+1) b (st t p x) xs
variable {From To Al hold st ok N}
theorem u5j {i:Nat} (ha:Al i=true):∀ (xs:List Nat) (t:Nat) (b c:Bool) (p:π),b69 From To Al hold st i t b p xs ↔ b69 From To Al hold st i t c p xs
 | [],_,_,_,_=>by simp [b69,ha]
 | x :: xs,t,b,c,p=>by
  unfold b69
  simp only [ha,if_true]
  rw [u5j ha xs (t+1) b c]
theorem u2h {i:Nat} (ha:Al i=true):∀ (xs:List Nat) (t:Nat) (b:Bool) (p:π),Rem From To Al hold st i t b p xs ↔ b69 From To Al hold st i t b p xs
 | [],_,_,_=>by simp [Rem,b69,ha]
 | x :: xs,t,b,p=>by
  unfold Rem b69
  simp only [ha,if_true]
  rw [u2h ha xs]
theorem u5l {i:Nat} (ha:Al i=false):∀ (xs:List Nat) (t:Nat) (b:Bool) (p:π),To i<t->Rem From To Al hold st i t b p xs
 | [],_,_,_,_=>trivial
 | x :: xs,t,b,p,h=>by
  unfold Rem
  rw [if_neg (by omega)]
  exact u5l ha xs _ _ _ (by omega)
theorem u5k {i:Nat} (ha:Al i=false):∀ (xs:List Nat) (t:Nat) (b:Bool) (p:π),To i<t->(b69 From To Al hold st i t b p xs ↔ b=true)
 | [],_,_,_,_=>by simp [b69,ha]
 | x :: xs,t,b,p,h=>by
  unfold b69
  rw [if_neg (by omega)]
  exact u5k ha xs _ _ _ (by omega)
theorem u38 {i:Nat} (hft:From i<=To i):∀ (xs:List Nat) (t:Nat) (b:Bool) (p:π),t<=To i->To i<t+xs.length->(Rem From To Al hold st i t b p xs ↔ b69 From To Al hold st i t b p xs)
 | [],t,b,p,h1,h2=>by simp at h2; omega
 | x :: xs,t,b,p,h1,h2=>by
  cases ha:Al i with
  | true=>exact u2h ha _ _ _ _
  | false =>
   have h2:To i<t+(xs.length+1):=h2
   unfold Rem b69
   simp only [ha,fT9,if_false]
   by_cases hf:From i<=t/\t<=To i
   ·rw [if_pos hf,if_pos hf]
    by_cases e:t=To i
    ·rw [if_pos e,u5k ha _ _ _ _ (by omega)]
     exact ⟨fun h=>h.1,fun h=>⟨h,u5l ha _ _ _ _ (by omega)⟩⟩
    ·rw [if_neg e]
     exact u38 hft xs (t+1) _ _ (by omega) (by omega)
   ·rw [if_neg hf,if_neg hf]
    exact u38 hft xs (t+1) _ _ (by omega) (by omega)
def pat (st:Nat->π->Nat->π):Nat->π->List Nat->Nat->π
 | _,p,_,0=>p
 | _,p,[],_+1=>p
 | t,p,x :: xs,k+1=>pat st (t+1) (st t p x) xs k
theorem x5o:∀ (xs:List Nat) (t:Nat) (p:π),s9c st ok N t p xs ↔ ∀ k x,xs[k]?=some x->x<N/\ok (t+k) (pat st t p xs k) x=true
 | [],_,_=>by simp [s9c]
 | x :: xs,t,p=>by
  unfold s9c
  rw [x5o xs]
  constructor
  ·rintro ⟨h1,h2,h3⟩ k y hk
   cases k with
   | zero=>simp at hk; subst hk; exact ⟨h1,h2⟩
   | succ k =>
    simp at hk
    have := h3 k y hk
    rw [show t+(k+1)=t+1+k by omega]; exact this
  ·intro h
   refine ⟨(h 0 x (by simp)).1,(h 0 x (by simp)).2,fun k y hk=>?_⟩
   have := h (k+1) y (by simpa using hk)
   rw [show t+(k+1)=t+1+k by omega] at this; exact this
theorem y9k {i:Nat}:∀ (xs:List Nat) (t:Nat) (b:Bool) (p:π),b69 From To Al hold st i t b p xs ↔
  if Al i=true then ∀ k x,xs[k]?=some x->From i<=t+k->t+k<=To i->hold i (pat st t p xs k) x=true
  else b=true\/∃ k x,xs[k]?=some x/\From i<=t+k/\t+k<=To i/\hold i (pat st t p xs k) x=true
 | [],t,b,p=>by
  unfold b69
  by_cases ha:Al i=true <;> simp [ha]
 | x :: xs,t,b,p=>by
  unfold b69
  by_cases ha:Al i=true
  ·rw [if_pos ha]
   simp only [ha,if_true]
   have key:∀ c,b69 From To Al hold st i (t+1) c (st t p x) xs ↔ ∀ k y,xs[k]?=some y->From i<=t+1+k->t+1+k<=To i->hold i (pat st (t+1) (st t p x) xs k) y=true:=fun c=>by
    rw [y9k xs,if_pos ha]
   have sp:(∀ k y,(x :: xs)[k]?=some y->From i<=t+k->t+k<=To i->hold i (pat st t p (x :: xs) k) y=true) ↔
     (From i<=t/\t<=To i->hold i p x=true)/\∀ k y,xs[k]?=some y->From i<=t+1+k->t+1+k<=To i->hold i (pat st (t+1) (st t p x) xs k) y=true:=by
    constructor
    ·intro h
     refine ⟨fun hf=>h 0 x (by simp) hf.1 hf.2,fun k y hk h1 h2=>?_⟩
     exact h (k+1) y (by simpa using hk) (by omega) (by omega)
    ·rintro ⟨h0,h1⟩ k y hk h2 h3
     cases k with
     | zero=>simp at hk; subst hk; exact h0 ⟨h2,h3⟩
     | succ k=>exact h1 k y (by simpa using hk) (by omega) (by omega)
   rw [sp]
   by_cases hf:From i<=t/\t<=To i
   ·rw [if_pos hf,key]; simp [hf]
   ·rw [if_neg hf,key]; simp [hf]
  ·rw [if_neg ha]
   simp only [ha,fT9,if_false]
   have key:∀ c,b69 From To Al hold st i (t+1) c (st t p x) xs ↔ c=true\/∃ k y,xs[k]?=some y/\From i<=t+1+k/\t+1+k<=To i/\hold i (pat st (t+1) (st t p x) xs k) y=true:=fun c=>by
    rw [y9k xs,if_neg ha]
   have sp:(∃ k y,(x :: xs)[k]?=some y/\From i<=t+k/\t+k<=To i/\hold i (pat st t p (x :: xs) k) y=true) ↔
     (From i<=t/\t<=To i/\hold i p x=true)\/∃ k y,xs[k]?=some y/\From i<=t+1+k/\t+1+k<=To i/\hold i (pat st (t+1) (st t p x) xs k) y=true:=by
    constructor
    ·rintro ⟨k,y,hk,h1,h2,h3⟩
     cases k with
     | zero=>simp at hk; subst hk; exact .inl ⟨h1,h2,h3⟩
     | succ k=>exact .inr ⟨k,y,by simpa using hk,by omega,by omega,h3⟩
    ·rintro (⟨h1,h2,h3⟩|⟨k,y,hk,h1,h2,h3⟩)
     ·exact ⟨0,x,by simp,h1,h2,h3⟩
     ·exact ⟨k+1,y,by simpa using hk,by omega,by omega,h3⟩
   rw [sp]
   by_cases hf:From i<=t/\t<=To i
   ·rw [if_pos hf,key]
    simp only [hf,true_and,Bool.or_eq_true,or_assoc]
   ·rw [if_neg hf,key]
    constructor
    ·rintro (h|h)
     ·exact .inl h
     ·exact .inr (.inr h)
    ·rintro (h|⟨h1,h2,_⟩|h)
     ·exact .inl h
     ·exact absurd ⟨h1,h2⟩ hf
     ·exact .inr h
end
end Go.Nw
namespace Go.Nw
def clr (D i:Nat):Nat:=D ^^^ (D &&& 2 ^ i)
theorem u42 (D i j:Nat):(clr D i).testBit j=(D.testBit j && decide (j≠i)):=by
 unfold clr
 rw [Nat.testBit_xor,Nat.testBit_and,Nat.testBit_two_pow]
 by_cases e:i=j
 ·subst e; cases D.testBit i <;> simp
 ·have e':¬ j=i:=fun h=>e h.symm
  simp [e,e']
theorem u9m (D i j:Nat):(D ||| 2 ^ i).testBit j=(D.testBit j || decide (j=i)):=by
 rw [Nat.testBit_or,Nat.testBit_two_pow]
 by_cases e:i=j
 ·subst e; simp
 ·have e':¬ j=i:=fun h=>e h.symm
  simp [e,e']
theorem u25 {D i k:Nat} (h:D<2 ^ k):clr D i<2 ^ k:=Nat.xor_lt_two_pow h (Nat.lt_of_le_of_lt Nat.and_le_left h)
theorem u1d {D i k:Nat} (h:D<2 ^ k) (hi:i<k):D ||| 2 ^ i<2 ^ k:=Nat.or_lt_two_pow h (Nat.pow_lt_pow_right (by omega) hi)
section
variable {π:Type} (From To:Nat->Nat) (Al:Nat->Bool) (keep:Nat->Bool) (hold:Nat->π->Nat->Bool) (st:Nat->π->Nat->π) (ok:Nat->π->Nat->Bool) (N T n:Nat)
def act (t i:Nat):Bool:=decide (From i<=t) && decide (t<=To i)
def l61 (t:Nat) (p:π) (x i D:Nat):Option Nat :=
 if keep i && act From To t i then
  (if Al i && !hold i p x then none
   else if Al i then some (if t=To i then clr D i else D)
   else if hold i p x && decide (t<To i) then some (if t=To i then clr (D ||| 2 ^ i) i else D ||| 2 ^ i)
   else if !hold i p x && decide (t=To i) && !D.testBit i then none
   else some (if t=To i then clr D i else D))
 else some D
def c46 (t:Nat) (p:π) (x D:Nat):Nat->Option Nat
 | 0=>some D
 | i+1=>(c46 t p x D i).bind (l61 From To Al keep hold t p x i)
def y72 (t:Nat) (p:π) (x i D:Nat):Option Nat :=
 if keep i && act From To t i then
  (if Al i && !hold i p x then none else if !Al i && hold i p x then some (D ||| 2 ^ i) else some D)
 else some D
def c37 (t:Nat) (p:π) (x D:Nat):Nat->Option Nat
 | 0=>some D
 | i+1=>(c37 t p x D i).bind (y72 From To Al keep hold t p x i)
def s8u (t:Nat) (p:π) (x i:Nat) (b:Bool):Prop:=act From To t i=true->if Al i=true then hold i p x=true else t=To i->(b || hold i p x)=true
def u0z (t:Nat) (p:π) (x i:Nat) (b:Bool):Bool:=if act From To t i then (if t=To i then false else if Al i then b else b || hold i p x) else b
def L1h (t:Nat) (p:π) (x i:Nat):Prop:=act From To t i=true->Al i=true->hold i p x=true
def K51 (t:Nat) (p:π) (x i:Nat) (b:Bool):Bool:=if act From To t i && !Al i then b || hold i p x else b
def trP (m:Nat × π × Nat) (x:Nat):Option (Nat × π × Nat) :=
 if ok m.1 m.2.1 x then (c46 From To Al keep hold m.1 m.2.1 x m.2.2 n).map fun D=>(m.1+1,st m.1 m.2.1 x,D) else none
def s83 (m:Nat × π × Nat):Bool:=decide (m.1=T)
def trD (m:Nat × π × Nat) (x:Nat):Option (Nat × π × Nat) :=
 if ok m.1 m.2.1 x then (c37 From To Al keep hold m.1 m.2.1 x m.2.2 n).map fun D=>(m.1+1,st m.1 m.2.1 x,D) else none
def c40 (want:Nat) (m:Nat × π × Nat):Bool:=decide (m.1=T) && decide (m.2.2=want)
variable {From To Al keep hold st ok N T n}
theorem u0e {t i:Nat}:act From To t i=true ↔ From i<=t/\t<=To i:=by unfold act; simp
theorem u6q {t:Nat} {p:π} {x i D D':Nat} (h:l61 From To Al keep hold t p x i D=some D') :
  (keep i=true->s8u From To Al hold t p x i (D.testBit i))/\∀ j,D'.testBit j=if j=i/\keep i=true then u0z From To Al hold t p x i (D.testBit i) else D.testBit j:=by
 have hle:act From To t i=true->t<=To i:=fun h=>(u0e.1 h).2
 unfold l61 at h
 unfold s8u u0z
 by_cases hk:keep i=true <;> by_cases ha:act From To t i=true <;> by_cases hA:Al i=true <;> by_cases hh:hold i p x=true <;> by_cases ht:t=To i <;> by_cases hb:D.testBit i=true <;> by_cases hl:t<To i <;>
  simp_all <;> (try omega) <;> (try (first|exact absurd (Nat.le_antisymm hle hl) ht|(subst h; intro j; by_cases e:j=i <;> first|(have e':¬ i=j:=fun q=>e q.symm; simp_all [u42,Nat.testBit_two_pow]; done)|simp_all [u42,Nat.testBit_two_pow]))) <;> (try (intro j hj e; subst e; rw [hb] at hj; cases hj))
theorem u6p {t:Nat} {p:π} {x i D:Nat} (h:l61 From To Al keep hold t p x i D=none):keep i=true/\¬ s8u From To Al hold t p x i (D.testBit i):=by
 unfold l61 at h
 unfold s8u
 by_cases hk:keep i=true <;> by_cases ha:act From To t i=true <;> by_cases hA:Al i=true <;> by_cases hh:hold i p x=true <;> by_cases ht:t=To i <;> by_cases hb:D.testBit i=true <;> by_cases hl:t<To i <;>
  simp_all
theorem u1u {t:Nat} {p:π} {x D:Nat}:∀ n,
  (∀ D',c46 From To Al keep hold t p x D n=some D'->(∀ i,i<n->keep i=true->s8u From To Al hold t p x i (D.testBit i))/\∀ j,D'.testBit j=if j<n/\keep j=true then u0z From To Al hold t p x j (D.testBit j) else D.testBit j) /\
  (c46 From To Al keep hold t p x D n=none->∃ i,i<n/\keep i=true/\¬ s8u From To Al hold t p x i (D.testBit i))
 | 0=>⟨fun D' h=>by cases h; exact ⟨fun i hi=>by omega,fun j=>by simp⟩,fun h=>by cases h⟩
 | n+1=>by
  obtain ⟨ih1,ih2⟩:=u1u (t:=t) (p:=p) (x:=x) (D:=D) n
  refine ⟨fun D' h=>?_,fun h=>?_⟩
  ·obtain ⟨D1,h1,h2⟩:=bE9.1 h
   obtain ⟨g1,g2⟩:=ih1 D1 h1
   obtain ⟨e1,e2⟩:=u6q h2
   have eb:D1.testBit n=D.testBit n:=by rw [g2,if_neg (by omega)]
   rw [eb] at e1 e2
   refine ⟨fun i hi hk=>?_,fun j=>?_⟩
   ·by_cases e:i=n
    ·subst e; exact e1 hk
    ·exact g1 i (by omega) hk
   ·rw [e2]
    by_cases e:j=n
    ·subst e
     by_cases hk:keep j=true
     ·rw [if_pos ⟨rfl,hk⟩,if_pos ⟨by omega,hk⟩]
     ·rw [if_neg (fun h=>hk h.2),if_neg (fun h=>hk h.2),eb]
    ·rw [if_neg (fun h=>e h.1),g2]
     by_cases hj:j<n/\keep j=true
     ·rw [if_pos hj,if_pos ⟨by omega,hj.2⟩]
     ·rw [if_neg hj,if_neg (fun h=>hj ⟨by omega,h.2⟩)]
  ·unfold c46 at h
   cases h1:c46 From To Al keep hold t p x D n with
   | none =>
    obtain ⟨i,a,b,c⟩:=ih2 h1
    exact ⟨i,by omega,b,c⟩
   | some D1 =>
    rw [h1,bS9] at h
    obtain ⟨g1,g2⟩:=ih1 D1 h1
    obtain ⟨a,b⟩:=u6p h
    rw [g2,if_neg (by omega)] at b
    exact ⟨n,by omega,a,b⟩
theorem u4l {t:Nat} {p:π} {x i D D':Nat} (h:y72 From To Al keep hold t p x i D=some D') :
  (keep i=true->L1h From To Al hold t p x i)/\∀ j,D'.testBit j=if j=i/\keep i=true then K51 From To Al hold t p x i (D.testBit i) else D.testBit j:=by
 unfold y72 at h
 unfold L1h K51
 by_cases hk:keep i=true <;> by_cases ha:act From To t i=true <;> by_cases hA:Al i=true <;> by_cases hh:hold i p x=true <;> by_cases hb:D.testBit i=true <;>
  simp_all <;> (try (subst h; intro j; by_cases e:j=i <;> first|(have e':¬ i=j:=fun q=>e q.symm; simp_all [Nat.testBit_two_pow]; done)|simp_all [Nat.testBit_two_pow]))
theorem u4k {t:Nat} {p:π} {x i D:Nat} (h:y72 From To Al keep hold t p x i D=none):keep i=true/\¬ L1h From To Al hold t p x i:=by
 unfold y72 at h
 unfold L1h
 by_cases hk:keep i=true <;> by_cases ha:act From To t i=true <;> by_cases hA:Al i=true <;> by_cases hh:hold i p x=true <;> simp_all
theorem s9g {t:Nat} {p:π} {x D:Nat}:∀ n,
  (∀ D',c37 From To Al keep hold t p x D n=some D'->(∀ i,i<n->keep i=true->L1h From To Al hold t p x i)/\∀ j,D'.testBit j=if j<n/\keep j=true then K51 From To Al hold t p x j (D.testBit j) else D.testBit j) /\
  (c37 From To Al keep hold t p x D n=none->∃ i,i<n/\keep i=true/\¬ L1h From To Al hold t p x i)
 | 0=>⟨fun D' h=>by cases h; exact ⟨fun i hi=>by omega,fun j=>by simp⟩,fun h=>by cases h⟩
 | n+1=>by
  obtain ⟨ih1,ih2⟩:=s9g (t:=t) (p:=p) (x:=x) (D:=D) n
  refine ⟨fun D' h=>?_,fun h=>?_⟩
  ·obtain ⟨D1,h1,h2⟩:=bE9.1 h
   obtain ⟨g1,g2⟩:=ih1 D1 h1
   obtain ⟨e1,e2⟩:=u4l h2
   have eb:D1.testBit n=D.testBit n:=by rw [g2,if_neg (by omega)]
   rw [eb] at e2
   refine ⟨fun i hi hk=>?_,fun j=>?_⟩
   ·by_cases e:i=n
    ·subst e; exact e1 hk
    ·exact g1 i (by omega) hk
   ·rw [e2]
    by_cases e:j=n
    ·subst e
     by_cases hk:keep j=true
     ·rw [if_pos ⟨rfl,hk⟩,if_pos ⟨by omega,hk⟩]
     ·rw [if_neg (fun h=>hk h.2),if_neg (fun h=>hk h.2),eb]
    ·rw [if_neg (fun h=>e h.1),g2]
     by_cases hj:j<n/\keep j=true
     ·rw [if_pos hj,if_pos ⟨by omega,hj.2⟩]
     ·rw [if_neg hj,if_neg (fun h=>hj ⟨by omega,h.2⟩)]
  ·unfold c37 at h
   cases h1:c37 From To Al keep hold t p x D n with
   | none =>
    obtain ⟨i,a,b,c⟩:=ih2 h1
    exact ⟨i,by omega,b,c⟩
   | some D1 =>
    rw [h1,bS9] at h
    obtain ⟨a,b⟩:=u4k h
    exact ⟨n,by omega,a,b⟩
theorem u37 {i t:Nat} {b:Bool} {p:π} {x:Nat} {xs:List Nat}:Rem From To Al hold st i t b p (x :: xs) ↔ s8u From To Al hold t p x i b/\Rem From To Al hold st i (t+1) (u0z From To Al hold t p x i b) (st t p x) xs:=by
 unfold s8u u0z
 by_cases ha:act From To t i=true
 ·have ha':=u0e.1 ha
  rw [Rem,if_pos ha']
  simp only [ha,if_true,forall_const]
  by_cases hA:Al i=true
  ·simp only [hA,if_true]
   rw [u2h hA xs (t+1) b,u2h hA xs (t+1) (if t=To i then false else b),u5j hA xs (t+1) b (if t=To i then false else b)]
  ·simp only [hA,if_false,fT9]
   by_cases ht:t=To i
   ·simp [ht]
   ·simp [ht]
 ·rw [Rem,if_neg (fun h=>ha (u0e.2 h))]
  simp [ha]
theorem u36 {i t:Nat} {b:Bool} {p:π} {x:Nat} {xs:List Nat}:b69 From To Al hold st i t b p (x :: xs) ↔ L1h From To Al hold t p x i/\b69 From To Al hold st i (t+1) (K51 From To Al hold t p x i b) (st t p x) xs:=by
 unfold L1h K51
 by_cases ha:act From To t i=true
 ·have ha':=u0e.1 ha
  rw [b69,if_pos ha']
  by_cases hA:Al i=true
  ·simp [hA,ha]
  ·simp [hA,ha]
 ·rw [b69,if_neg (fun h=>ha (u0e.2 h))]
  simp [ha]
theorem u2x:∀ (xs:List Nat) (t:Nat) (p:π) (D:Nat),Acc (trP From To Al keep hold st ok n) (s83 T) N xs (t,p,D) ↔
  (t + xs.length=T/\s9c st ok N t p xs/\∀ i,i<n->keep i=true->Rem From To Al hold st i t (D.testBit i) p xs)
 | [],t,p,D=>by simp [Acc,s83,s9c,Rem]
 | x :: xs,t,p,D=>by
  unfold Acc
  constructor
  ·rintro ⟨h1,h2,m',h3,h4⟩
   unfold trP at h3
   by_cases ho:ok t p x=true
   ·simp only [ho,if_true,mE9] at h3
    obtain ⟨D',h5,rfl⟩:=h3
    rw [u2x xs] at h4
    obtain ⟨h6,h7,h8⟩:=h4
    obtain ⟨g1,g2⟩:=(u1u n).1 D' h5
    refine ⟨by rw [List.length_cons]; omega,⟨h2,ho,h7⟩,fun i hi hk=>u37.2 ⟨g1 i hi hk,?_⟩⟩
    have := h8 i hi hk
    rw [g2,if_pos ⟨hi,hk⟩] at this
    exact this
   ·simp [ho] at h3
  ·rintro ⟨h1,⟨h2,h3,h4⟩,h5⟩
   rw [List.length_cons] at h1
   refine ⟨by simp [s83]; omega,h2,?_⟩
   unfold trP
   simp only [h3,if_true]
   cases hb:c46 From To Al keep hold t p x D n with
   | none =>
    obtain ⟨i,a,b,c⟩:=(u1u n).2 hb
    exact absurd (u37.1 (h5 i a b)).1 c
   | some D' =>
    obtain ⟨g1,g2⟩:=(u1u n).1 D' hb
    refine ⟨_,rfl,(u2x xs _ _ _).2 ⟨by omega,h4,fun i hi hk=>?_⟩⟩
    have := (u37.1 (h5 i hi hk)).2
    rw [g2,if_pos ⟨hi,hk⟩]
    exact this
def u0c (Al keep:Nat->Bool) (n want:Nat):Prop:=∀ j,want.testBit j=(decide (j<n) && keep j && !Al j)
theorem u4n {t:Nat} {p:π} {x D D' want:Nat} (hw:u0c Al keep n want) (hs:Sub D want) (h:c37 From To Al keep hold t p x D n=some D'):Sub D' want:=fun j hj=>by
 obtain ⟨g1,g2⟩:=(s9g n).1 D' h
 rw [g2] at hj
 by_cases hk:j<n/\keep j=true
 ·rw [if_pos hk] at hj
  unfold K51 at hj
  by_cases hc:(act From To t j && !Al j)=true
  ·rw [hw j]; simp only [Bool.and_eq_true] at hc; simp [hk.1,hk.2,hc.2]
  ·rw [if_neg hc] at hj; exact hs j hj
 ·rw [if_neg hk] at hj; exact hs j hj
theorem u2w {want:Nat} (hw:u0c Al keep n want):∀ (xs:List Nat) (t:Nat) (p:π) (D:Nat),Sub D want->t<=T->(Acc (trD From To Al keep hold st ok n) (c40 T want) N xs (t,p,D) ↔
  (t + xs.length=T/\s9c st ok N t p xs/\∀ i,i<n->keep i=true->b69 From To Al hold st i t (D.testBit i) p xs))
 | [],t,p,D,hs,hT=>by
  simp only [Acc,c40,s9c,b69,Bool.and_eq_true,decide_eq_true_eq,List.length_nil,Nat.add_zero,true_and]
  refine and_congr_right fun _=>⟨?_,fun h=>Nat.eq_of_testBit_eq fun j=>?_⟩
  ·rintro rfl i hi hk
   rw [hw i]
   by_cases hA:Al i=true
   ·exact .inl hA
   ·exact .inr (by simp [hi,hk,hA])
  ·rw [Bool.eq_iff_iff]
   refine ⟨hs j,fun h2=>?_⟩
   rw [hw j] at h2
   simp only [Bool.and_eq_true,decide_eq_true_eq,Bool.not_eq_true'] at h2
   rcases h j h2.1.1 h2.1.2 with h3|h3
   ·rw [h2.2] at h3; cases h3
   ·exact h3
 | x :: xs,t,p,D,hs,hT=>by
  unfold Acc
  constructor
  ·rintro ⟨h1,h2,m',h3,h4⟩
   unfold trD at h3
   by_cases ho:ok t p x=true
   ·simp only [ho,if_true,mE9] at h3
    obtain ⟨D',h5,rfl⟩:=h3
    have hlt:t+1<=T:=by
     -- behind the last tick nothing is accepted
     have late:∀ (ys:List Nat) (m:Nat × π × Nat),T<m.1->¬ Acc (trD From To Al keep hold st ok n) (c40 T want) N ys m:=by
      intro ys
      induction ys with
      | nil=>intro m hm h; simp [Acc,c40] at h; omega
      | cons y ys ih =>
       rintro m hm ⟨_,_,m2,g1,g2⟩
       refine ih m2 ?_ g2
       unfold trD at g1
       split at g1
       ·obtain ⟨_,_,rfl⟩:=mE9.1 g1
        show T<m.1+1; omega
       ·cases g1
     rcases Nat.lt_or_ge T (t+1) with hl|hl
     ·exact absurd h4 (late xs _ hl)
     ·exact hl
    rw [u2w hw xs _ _ _ (u4n hw hs h5) hlt] at h4
    obtain ⟨h6,h7,h8⟩:=h4
    obtain ⟨g1,g2⟩:=(s9g n).1 D' h5
    refine ⟨by rw [List.length_cons]; omega,⟨h2,ho,h7⟩,fun i hi hk=>u36.2 ⟨g1 i hi hk,?_⟩⟩
    have := h8 i hi hk
    rw [g2,if_pos ⟨hi,hk⟩] at this
    exact this
   ·simp [ho] at h3
  ·rintro ⟨h1,⟨h2,h3,h4⟩,h5⟩
   rw [List.length_cons] at h1
   refine ⟨by simp [c40]; omega,h2,?_⟩
   unfold trD
   simp only [h3,if_true]
   cases hb:c37 From To Al keep hold t p x D n with
   | none =>
    obtain ⟨i,a,b,c⟩:=(s9g n).2 hb
    exact absurd (u36.1 (h5 i a b)).1 c
   | some D' =>
    obtain ⟨g1,g2⟩:=(s9g n).1 D' hb
    refine ⟨_,rfl,(u2w hw xs _ _ _ (u4n hw hs hb) (by omega)).2 ⟨by omega,h4,fun i hi hk=>?_⟩⟩
    have := (u36.1 (h5 i hi hk)).2
    rw [g2,if_pos ⟨hi,hk⟩]
    exact this
def l27 (From To:Nat->Nat) (Al keep:Nat->Bool) (hold:Nat->π->Nat->Bool) (st:Nat->π->Nat->π) (ok:Nat->π->Nat->Bool) (N T n:Nat) (p0:π) (xs:List Nat):Prop :=
 xs.length = T/\s9c st ok N 0 p0 xs/\∀ i,i<n->keep i=true->b69 From To Al hold st i 0 false p0 xs
theorem u7j {p0:π} (hft:∀ i,i<n->keep i=true->From i<=To i/\To i<T) {xs:List Nat}:Acc (trP From To Al keep hold st ok n) (s83 T) N xs (0,p0,0) ↔ l27 From To Al keep hold st ok N T n p0 xs:=by
 rw [u2x]
 unfold l27
 rw [Nat.zero_add]
 refine and_congr_right fun hl=>and_congr_right fun _=>forall_congr' fun i=>forall_congr' fun hi=>forall_congr' fun hk=>?_
 rw [Nat.zero_testBit]
 exact u38 (hft i hi hk).1 xs 0 false p0 (Nat.zero_le _) (by have:=(hft i hi hk).2; omega)
theorem u3b {p0:π} {want:Nat} (hw:u0c Al keep n want) {xs:List Nat}:Acc (trD From To Al keep hold st ok n) (c40 T want) N xs (0,p0,0) ↔ l27 From To Al keep hold st ok N T n p0 xs:=by
 rw [u2w hw xs 0 p0 0 (sub_zero _) (Nat.zero_le _)]
 unfold l27
 simp only [Nat.zero_add,Nat.zero_testBit]
end
end Go.Nw
namespace Go.Nw.UM
noncomputable section
def R (a:Accident) (i:Nat):Record:=a.Records.getD i default
def fr (a:Accident) (i:Nat):Nat:=(R a i).From.toNat
def to (a:Accident) (i:Nat):Nat:=(R a i).To.toNat
def al (a:Accident) (i:Nat):Bool:=(R a i).All
def hold (a:Accident) (i:Nat) (p:Place) (x:Nat):Bool:=b46 a.Machine p (x:Int) (R a i).Cond
def nA (a:Accident):Nat:=2 ^ a.Machine.Inputs.length
def tA (a:Accident):Nat:=a.Ticks.toNat
def hdO (th:Theory) (t x:Nat):Option Int :=
 if (decide (th.Input<0) || decide ((t:Int)<th.From))=true then some (x:Int)
 else (shl .i64 1 th.Input).bind fun q6=>(shl .i64 th.Value th.Input).bind fun q7=>some (bor (g6a (x:Int) q6) q7)
def hdT (th:Theory) (t x:Nat):Int:=(hdO th t x).getD 0
def stA (a:Accident) (th:Theory) (t:Nat) (p:Place) (x:Nat):Place:=nxt a.Machine p (hdT th t x)
def okA (a:Accident) (ft:Nat->Place->Nat->Bool) (t:Nat) (p:Place) (x:Nat):Bool:=c25 a.Machine p (x:Int) a.Assume && ft t p x
theorem u6j {a:Accident} {i:Nat} {r:Record} (h:a.Records[i]?=some r):R a i=r:=by unfold R; rw [List.getD_eq_getElem?_getD,h]; rfl
theorem s9b {a:Accident} (ha:OkA a):((tA a:Nat):Int)=a.Ticks:=by have:=ha.t; unfold tA; omega
theorem u2g {a:Accident} (ha:OkA a) {i:Nat} (hi:i<a.Records.length):∃ r,a.Records[i]?=some r/\R a i=r/\r.From=(fr a i:Int)/\r.To=(to a i:Int)/\fr a i<=to a i/\to a i<tA a/\b2s a.Machine true r.Cond:=by
 obtain ⟨r,hr⟩:=b3b hi
 have e:=u6j hr
 have hm:r∈a.Records:=b1d.2 ⟨i,hr⟩
 have h1:=ha.rt r hm
 have h2:=s9b ha
 refine ⟨r,hr,e,?_,?_,?_,?_,ha.rc r hm⟩ <;> simp only [fr,to,e] <;> omega
theorem u5f {a:Accident} {th:Theory} (h:OkT a th) (ha:OkA a):(th.Input = -1/\th.Value=0/\th.From=0)\/(In th.Input a.Machine.Inputs.length/\(0<=th.Value/\th.Value<=1)/\0<=th.From/\th.From<a.Ticks):=by
 unfold OkT l59 at h
 have hz:=ha.m.z.i
 have ht:=ha.t
 rw [c1n (D5s hz),b3t (by omega : -9223372036854775808<=a.Ticks - 1) (by omega)] at h
 by_cases e:th.Input = -1
 ·rw [if_pos (by simp [e])] at h
  simp only [Bool.and_eq_true,decide_eq_true_eq] at h
  exact .inl ⟨e,h.1,h.2⟩
 ·rw [if_neg (by simp [e])] at h
  unfold b98 at h
  simp only [Bool.and_eq_true,decide_eq_true_eq] at h
  refine .inr ⟨?_,?_,?_⟩
  ·unfold In; omega
  ·omega
  ·omega
theorem u3y {a:Accident} (ha:OkA a):nA a<=16:=p2a ha.m.z
theorem w9w {a:Accident} {th:Theory} (ha:OkA a) (hth:OkT a th) {t x:Nat}:hdO th t x=some (hdT th t x):=by
 have hz:=ha.m.z.i
 unfold hdT hdO
 by_cases hc:(decide (th.Input<0) || decide ((t:Int)<th.From))=true
 ·rw [if_pos hc]; rfl
 ·rw [if_neg hc]
  simp only [Bool.or_eq_true,decide_eq_true_eq] at hc
  unfold shl
  rw [if_neg (by omega),if_neg (by omega)]; rfl
theorem u8i {a:Accident} {th:Theory} (ha:OkA a) (hth:OkT a th) {t x:Nat} (hx:x<nA a) {pl:situation_Plant} {kp:Kp} {fp:Ft}:s9e ⟨a,pl,th⟩ t x kp fp=some (hdT th t x):=by
 rw [<- w9w ha hth]; rfl
theorem u6n {x y:Nat} (hx:x<9223372036854775808) (hy:y<9223372036854775808):g6a (x:Int) (y:Int)=((x ^^^ (x &&& y):Nat):Int):=by
 show IntKind.wrap .i64 ((BitVec.ofInt 64 (x:Int) &&& ~~~ BitVec.ofInt 64 (y:Int)).toNat:Int)=_
 have e:BitVec.ofInt 64 (x:Int) &&& ~~~ BitVec.ofInt 64 (y:Int)=BitVec.ofInt 64 (x:Int) ^^^ (BitVec.ofInt 64 (x:Int) &&& BitVec.ofInt 64 (y:Int)):=by
  ext i hi
  simp only [BitVec.getElem_and,BitVec.getElem_not,BitVec.getElem_xor]
  cases (BitVec.ofInt 64 (x:Int))[i] <;> cases (BitVec.ofInt 64 (y:Int))[i] <;> rfl
 rw [e,BitVec.toNat_xor,BitVec.toNat_and,s9p x (by omega),s9p y (by omega)]
 exact u4f (show _<2 ^ 63 from Nat.xor_lt_two_pow hx (Nat.lt_of_le_of_lt Nat.and_le_left hx))
section
variable {From To:Nat->Nat} {Al keep:Nat->Bool} {π:Type} {hold:Nat->π->Nat->Bool}
theorem u6o {t:Nat} {p:π} {x i D D' k:Nat} (h:l61 From To Al keep hold t p x i D=some D') (hD:D<2 ^ k) (hi:i<k):D'<2 ^ k:=by
 unfold l61 at h
 split at h
 ·split at h
  ·cases h
  ·split at h
   ·cases h; split
    ·exact u25 hD
    ·exact hD
   ·split at h
    ·cases h; split
     ·exact u25 (u1d hD hi)
     ·exact u1d hD hi
    ·split at h
     ·cases h
     ·cases h; split
      ·exact u25 hD
      ·exact hD
 ·cases h; exact hD
theorem bit2_lt {t:Nat} {p:π} {x i D D' k:Nat} (h:y72 From To Al keep hold t p x i D=some D') (hD:D<2 ^ k) (hi:i<k):D'<2 ^ k:=by
 unfold y72 at h
 split at h
 ·split at h
  ·cases h
  ·split at h
   ·cases h; exact u1d hD hi
   ·cases h; exact hD
 ·cases h; exact hD
theorem u21 {t:Nat} {p:π} {x D k:Nat} (hD:D<2 ^ k):∀ n D',n<=k->c46 From To Al keep hold t p x D n=some D'->D'<2 ^ k
 | 0,D',_,h=>by cases h; exact hD
 | n+1,D',hn,h=>by
  obtain ⟨D1,h1,h2⟩:=bE9.1 h
  exact u6o h2 (u21 hD n D1 (by omega) h1) (by omega)
theorem u4m {t:Nat} {p:π} {x D k:Nat} (hD:D<2 ^ k):∀ n D',n<=k->c37 From To Al keep hold t p x D n=some D'->D'<2 ^ k
 | 0,D',_,h=>by cases h; exact hD
 | n+1,D',hn,h=>by
  obtain ⟨D1,h1,h2⟩:=bE9.1 h
  exact bit2_lt h2 (u4m hD n D1 (by omega) h1) (by omega)
theorem u4r {t:Nat} {p:π} {x D k:Nat} (h:c46 From To Al keep hold t p x D k=none):∀ d,c46 From To Al keep hold t p x D (k+d)=none
 | 0=>h
 | d+1=>by show (c46 From To Al keep hold t p x D (k+d)).bind _=none; rw [u4r h d]; rfl
end
theorem u8z (m:faults_moment):Place.mk m.place.State (m.place.Values.1,m.place.Values.2)=m.place:=rfl
theorem u9l {a:Accident} {th:Theory} (ha:OkA a) {keep:Nat->Bool} {kp:Kp} {fp:Ft} (hk:∀ i:Nat,i<a.Records.length->kp (i:Int)=some (keep i)) {t:Nat} {p:Place} (hp:OkP a.Machine p) {x D:Nat} (hD:D<2 ^ 8) :
  s9f ⟨a,⟨a.Machine⟩,th⟩ ⟨t,p,D⟩ x kp fp=some (match c46 (fr a) (to a) (al a) keep (hold a) t p x D a.Records.length with|some D'=>((D':Int),true)|none=>(0,false)):=by
 have hn:=ha.n
 unfold s9f
 obtain ⟨b,h1,h2⟩:=j7u (f:=u0d ⟨a,⟨a.Machine⟩,th⟩ ⟨t,p,D⟩ x kp) a.Records.length (fun s k=>(s,k)) (fun k s=>∃ E:Nat,s=(E:Int)/\c46 (fr a) (to a) (al a) keep (hold a) t p x D k=some E)
  (fun b=>match c46 (fr a) (to a) (al a) keep (hold a) t p x D a.Records.length with|some D'=>b = .inl (D':Int)|none=>b = .inr (0,false)) (fun s k hkn ⟨E,hs,hE⟩=>by
   subst hs
   obtain ⟨r,hr,e,ef,et,_,_,hc⟩:=u2g ha hkn
   have hE8:=u21 hD k E (by omega) hE
   have he:E<9223372036854775808:=Nat.lt_of_lt_of_le hE8 (by decide)
   have hpw:2 ^ k<9223372036854775808:=u3z (by omega)
   have hbr:l61 (fr a) (to a) (al a) keep (hold a) t p x k E=none->c46 (fr a) (to a) (al a) keep (hold a) t p x D a.Records.length=none:=fun hb=>by
    have h3:c46 (fr a) (to a) (al a) keep (hold a) t p x D (k+1)=none:=by
     show (c46 (fr a) (to a) (al a) keep (hold a) t p x D k).bind _=none
     rw [hE,bS9,hb]
    have h4:=u4r h3 (a.Records.length - (k+1))
    rwa [show k+1+(a.Records.length - (k+1))=a.Records.length by omega] at h4
   have hnx:∀ E',l61 (fr a) (to a) (al a) keep (hold a) t p x k E=some E'->∃ E2:Nat,(E':Int)=(E2:Int)/\c46 (fr a) (to a) (al a) keep (hold a) t p x D (k+1)=some E2:=fun E' hb=>⟨E',rfl,by
    show (c46 (fr a) (to a) (al a) keep (hold a) t p x D k).bind _=_
    rw [hE,bS9,hb]⟩
   have hact:((decide ((t:Int)<r.From)) || (decide (r.To<(t:Int))))=!act (fr a) (to a) t k:=by
    rw [ef,et,Bool.eq_iff_iff]; unfold act; simp
   have hAl:al a k=r.All:=by unfold al; rw [e]
   have hh:hold a k p x=b46 a.Machine p (x:Int) r.Cond:=by unfold hold; rw [e]
   have hT:(decide ((t:Int)=r.To))=decide (t=to a k):=by rw [et,Bool.eq_iff_iff]; simp only [decide_eq_true_eq]; omega
   have hL:(decide ((t:Int)<r.To))=decide (t<to a k):=by rw [et,Bool.eq_iff_iff]; simp
   unfold u0d
   simp only [b1h hr,bS9,Int.ofNat_lt,hkn,decide_true,if_true,hk k hkn,u8z,Bool.or_assoc,hact]
   have hj19:∀ F:Nat,F<2 ^ 8->s81 ⟨t,p,D⟩ k r F=some (.nx (((if t=to a k then clr F k else F:Nat):Int),(k:Int)+1)):=fun F hF=>by
    have hF':F<9223372036854775808:=Nat.lt_of_lt_of_le hF (by decide)
    unfold s81 s82
    simp only [hT]
    by_cases c:t=to a k
    ·rw [if_pos (by simp [c]),u1e (by omega),bS9,u6n hF' hpw,b2r hkn (D5s hn),if_pos c]; rfl
    ·rw [if_neg (by simp [c]),b2r hkn (D5s hn),if_neg c]
   unfold l61 at hbr hnx
   by_cases hka:(keep k && act (fr a) (to a) t k)=true
   ·have hka':=Bool.and_eq_true_iff.1 hka
    simp only [hka,if_true] at hbr hnx
    rw [if_neg (by rw [hka'.1,hka'.2]; simp),c5w ha.m.z hp.s hc,bS9,<- hh,<- hAl]
    by_cases c1:(al a k && !hold a k p x)=true
    ·rw [if_pos c1] at hbr ⊢
     exact .inr ⟨_,rfl,by rw [hbr rfl]⟩
    ·rw [if_neg c1] at hbr hnx ⊢
     by_cases c2:al a k=true
     ·rw [if_pos c2] at hbr hnx ⊢
      exact .inl ⟨_,hj19 E hE8,hnx _ rfl⟩
     ·rw [if_neg c2] at hbr hnx ⊢
      simp only [hL,hT]
      by_cases c3:(hold a k p x && decide (t<to a k))=true
      ·rw [if_pos c3] at hbr hnx ⊢
       rw [u1e (by omega),bS9,u22 he hpw]
       have := hj19 (E ||| 2 ^ k) (u1d hE8 (by omega))
       refine .inl ⟨_,this,?_⟩
       have h5:=Bool.and_eq_true_iff.1 c3
       have h6:¬ t=to a k:=by have:=of_decide_eq_true h5.2; omega
       rw [if_neg h6] at hnx ⊢
       exact hnx _ rfl
      ·rw [if_neg c3] at hbr hnx ⊢
       have hsh:shr .i64 (E:Int) (k:Int)=some (d45 .i64 (E:Int) (k:Int)):=by
        unfold shr; rw [if_neg (by omega)]
       by_cases c4:(!hold a k p x && decide (t=to a k))=true
       ·rw [if_pos c4,hsh,bS9,u6r he (by omega)]
        simp only [bS9]
        cases hb:E.testBit k with
        | true =>
         rw [if_neg (by simp)]
         rw [if_neg (by simp [hb])] at hnx
         exact .inl ⟨_,hj19 E hE8,hnx _ rfl⟩
        | false =>
         rw [if_pos (by simp)]
         rw [if_pos (by simp only [c4,hb,Bool.not_false,Bool.and_self])] at hbr
         exact .inr ⟨_,rfl,by rw [hbr rfl]⟩
       ·rw [if_neg c4,bS9,if_neg (by simp)]
        rw [if_neg (by simp only [Bool.and_eq_true] at c4 ⊢; exact fun q=>c4 q.1)] at hnx
        exact .inl ⟨_,hj19 E hE8,hnx _ rfl⟩
   ·simp only [hka,if_false,fT9] at hbr hnx
    rw [if_pos (by cases h:keep k <;> simp_all)]
    unfold s82
    exact .inl ⟨_,by rw [b2r hkn (D5s hn)],hnx _ rfl⟩) (fun s ⟨E,hs,hE⟩=>by
   subst hs
   refine ⟨.inl (E:Int),by unfold u0d; simp only [Int.lt_irrefl,decide_false,fT9,if_false],?_⟩
   rw [hE]) 0 (Nat.zero_le _) ⟨D,rfl,rfl⟩
 rw [show (((D:Int),(0:Int)):Int × Int)=((D:Int),((0:Nat):Int)) from rfl,h1,bS9]
 cases h3:c46 (fr a) (to a) (al a) keep (hold a) t p x D a.Records.length with
 | some D'=>rw [h3] at h2; subst h2; rfl
 | none=>rw [h3] at h2; subst h2; rfl
end
end Go.Nw.UM
namespace Go.Nw.UM
noncomputable section
theorem u83 {κ ν:Type} [DecidableEq κ] {l:List (κ × ν)} {k:κ} {v:ν} {e:κ × ν} (h:e∈b3w l k v):e∈l\/e=(k,v):=by
 unfold b3w at h
 cases hm:b2u l k 0 with
 | none=>rw [hm] at h; rcases List.mem_append.1 h with h|h
         ·exact .inl h
         ·exact .inr (List.mem_singleton.1 h)
 | some p=>rw [hm] at h; exact List.mem_or_eq_of_mem_set h
theorem u8x {κ:Type} [DecidableEq κ] {l:List (κ × Bool)} {k:κ} (h:b2w l k false=true):(k,true)∈l:=by
 by_cases hk:k∈l.map (·.1)
 ·obtain ⟨d,hd⟩:=g1n (z:=false) hk
  rw [h] at hd; exact mG9 hd
 ·rw [g1o hk] at h; cases h
abbrev TP (a:Accident) (th:Theory) (keep:Nat->Bool) (ft:Nat->Place->Nat->Bool):Nat × Place × Nat->Nat->Option (Nat × Place × Nat) :=
 trP (fr a) (to a) (al a) keep (hold a) (stA a th) (okA a ft) a.Records.length
def AcP (a:Accident) (th:Theory) (keep:Nat->Bool) (ft:Nat->Place->Nat->Bool) (w:List Nat) (m:Nat × Place × Nat):Prop:=Acc (TP a th keep ft) (s83 (tA a)) (nA a) w m
def mom (m:Nat × Place × Nat):faults_moment:=⟨(m.1:Int),m.2.1,(m.2.2:Int)⟩
theorem u80 {m m':Nat × Place × Nat} (h:mom m=mom m'):m=m':=by
 unfold mom at h
 injection h with h1 h2 h3
 obtain ⟨a,b,c⟩:=m; obtain ⟨a',b',c'⟩:=m'
 simp only at h1 h2 h3
 rw [show a=a' by omega,h2,show c=c' by omega]
section
variable {a:Accident} {th:Theory} {keep:Nat->Bool} {ft:Nat->Place->Nat->Bool}
def u0a (a:Accident) (th:Theory) (keep:Nat->Bool) (ft:Nat->Place->Nat->Bool) (dead:b54):Prop:=∀ e∈dead,e.2=true->∀ m,e.1=mom m->∀ w,¬ AcP a th keep ft w m
theorem u5n {m m':Nat × Place × Nat} {x:Nat} (h:TP a th keep ft m x=some m'):∃ D',okA a ft m.1 m.2.1 x=true/\c46 (fr a) (to a) (al a) keep (hold a) m.1 m.2.1 x m.2.2 a.Records.length=some D'/\m'=(m.1+1,stA a th m.1 m.2.1 x,D'):=by
 unfold TP trP at h
 split at h
 ·rename_i ho
  obtain ⟨D',h1,rfl⟩:=mE9.1 h
  exact ⟨D',ho,h1,rfl⟩
 ·cases h
theorem u2z {m:Nat × Place × Nat} {x:Nat} {xs:List Nat}:AcP a th keep ft (x :: xs) m ↔ m.1≠tA a/\x<nA a/\∃ m',TP a th keep ft m x=some m'/\AcP a th keep ft xs m':=by
 unfold AcP
 rw [Acc]
 refine and_congr_left fun _=>?_
 unfold s83; simp
theorem u20 {m:Nat × Place × Nat}:AcP a th keep ft [] m ↔ m.1=tA a:=by unfold AcP; rw [Acc]; unfold s83; simp
theorem u8v {m m':Nat × Place × Nat} {x:Nat} {w:List Nat} (hm:m.1≠tA a) (hx:x<nA a) (ht:TP a th keep ft m x=some m') (hw:Lst (fun w=>AcP a th keep ft w m') w)
  (hb : ∀ y,y<x->∀ m2,TP a th keep ft m y=some m2->∀ w,¬ AcP a th keep ft w m2):Lst (fun w=>AcP a th keep ft w m) (x :: w):=by
 refine ⟨u2z.2 ⟨hm,hx,m',ht,hw.1⟩,fun l hl=>?_⟩
 cases l with
 | nil=>exact absurd (u20.1 hl) hm
 | cons y ys =>
  obtain ⟨_,_,m2,h1,h2⟩:=u2z.1 hl
  rcases Nat.lt_trichotomy x y with h|h|h
  ·exact .inl h
  ·subst h; rw [ht] at h1; cases h1; exact .inr ⟨rfl,hw.2 ys h2⟩
  ·exact absurd h2 (hb y h m2 h1 ys)
def qA (a:Accident) (th:Theory):faults_inquiry:=⟨a,⟨a.Machine⟩,th⟩
theorem u9p {α:Type} {l:List α} {x:α}:sub (l++[x]) 0 (wr ((List.length (l++[x]):Int) - 1))=some l\/¬ l.length<=1000:=by
 by_cases h:l.length<=1000
 ·left
  have e:wr ((List.length (l++[x]):Int) - 1)=(l.length:Int):=by
   rw [c1n (by simp only [List.length_append,List.length_cons,List.length_nil,maxLen]; omega)]; simp
  rw [e,u9o (by omega) (by omega) (by simp; omega)]
  simp
 ·exact .inr h
theorem u44 (ha:OkA a) (hth:OkT a th) {kp:Kp} {fp:Ft} (hk:∀ i:Nat,i<a.Records.length->kp (i:Int)=some (keep i))
  (hfp : ∀ (t:Nat) (p:Place) (x:Nat),t<tA a->OkP a.Machine p->x<nA a->fp t p x=some (ft t p x)) :
  ∀ (k:Nat) (t:Nat) (p:Place) (D:Nat) (dead:b54) (ins:List Int),t<=tA a->tA a - t<k->OkP a.Machine p->D<2 ^ 8->u0a a th keep ft dead->ins.length<=t ->
   ∃ r,s57 (qA a th) kp fp k (mom (t,p,D)) dead ins=some r/\u0a a th keep ft r.2.1 /\
    ((r.1 = true/\∃ w,Lst (fun w=>AcP a th keep ft w (t,p,D)) w/\r.2.2=ins++w.map (fun x:Nat=>(x:Int)))\/(r.1=false/\(∀ w,¬ AcP a th keep ft w (t,p,D))/\r.2.2=ins))
 | 0,t,p,D,dead,ins,ht,hk0,hp,hD,hd,hi=>by omega
 | k+1,t,p,D,dead,ins,ht,hk0,hp,hD,hd,hi=>by
  have ih:=u44 ha hth hk hfp k
  have hn16:=u3y ha
  have hT:=s9b ha
  have hT40:=ha.t
  have hn8:=ha.n
  unfold s57
  by_cases hend:t=tA a
  ·rw [if_pos (by show decide ((t:Int)=a.Ticks)=true; rw [<- hT]; simp [hend])]
   refine ⟨_,rfl,hd,.inl ⟨rfl,[],⟨u20.2 hend,fun l hl=>trivial⟩,by simp⟩⟩
  rw [if_neg (by show ¬ decide ((t:Int)=a.Ticks)=true; rw [<- hT]; simp; omega)]
  by_cases hdd:b2w dead (mom (t,p,D)) false=true
  ·rw [if_pos hdd]
   exact ⟨_,rfl,hd,.inr ⟨rfl,hd _ (u8x hdd) rfl _ rfl,rfl⟩⟩
  rw [if_neg hdd]
  have hall:c1y (qA a th).plant=some ((nA a:Nat):Int):=by
   show c1y ⟨a.Machine⟩=_
   have := ha.m.z.i
   unfold c1y
   simp only
   rw [c83 (by omega)]; simp [nA]
  rw [hall,bS9]
  obtain ⟨b,h1,h2⟩:=j7u (f:=u0f (qA a th) kp fp ((nA a:Nat):Int) (mom (t,p,D)) (s57 (qA a th) kp fp k)) (nA a) (fun (s:b54 × List Int) x=>(s.1,s.2,x))
   (fun x s=>u0a a th keep ft s.1/\s.2=ins/\∀ y,y<x->∀ m2,TP a th keep ft (t,p,D) y=some m2->∀ w,¬ AcP a th keep ft w m2)
   (fun b=>match b with
    | .inl d=>u0a a th keep ft d.1/\d.2=ins/\∀ y,y<nA a->∀ m2,TP a th keep ft (t,p,D) y=some m2->∀ w,¬ AcP a th keep ft w m2
    | .inr d=>u0a a th keep ft d.1/\∃ w,Lst (fun w=>AcP a th keep ft w (t,p,D)) w/\d.2=ins++w.map (fun x:Nat=>(x:Int))) (fun s x hx ⟨i1,i2,i3⟩=>by
    obtain ⟨d1,l1⟩:=s
    simp only at i1 i2
    subst i2
    have hx16:x<=maxLen:=by simp only [maxLen]; omega
    have hxx:((x:Int)<((nA a:Nat):Int)):=by omega
    have skip:(∀ m2,TP a th keep ft (t,p,D) x=some m2->∀ w,¬ AcP a th keep ft w m2)->∀ y,y<x+1->∀ m2,TP a th keep ft (t,p,D) y=some m2->∀ w,¬ AcP a th keep ft w m2:=fun h y hy m2=>by
     by_cases e:y=x
     ·subst e; exact h m2
     ·exact i3 y (by omega) m2
    have hw1:wr ((x:Int)+1)=(x:Int)+1:=b2r hx (by simp only [maxLen]; omega)
    simp only [u0f,hxx,decide_true,if_true]
    have hal:c1z (qA a th).plant (qA a th).Accident.Assume (mom (t,p,D)).place (x:Int)=some (c25 a.Machine p (x:Int) a.Assume):=g5i ha.m.z hp.s ha.asu
    rw [hal,bS9]
    have hcond:(if (!c25 a.Machine p (x:Int) a.Assume)=true then some true else (fp (mom (t,p,D)).tick (mom (t,p,D)).place (x:Int)).bind fun y2=>some (!y2))=some (!okA a ft t p x):=by
     show (if _ then _ else (fp (t:Int) p (x:Int)).bind _)=_
     rw [hfp t p x (by omega) hp hx]
     unfold okA
     cases c25 a.Machine p (x:Int) a.Assume <;> rfl
    rw [hcond,bS9]
    cases hok:okA a ft t p x with
    | false =>
     rw [if_pos (by rfl),hw1]
     refine .inl ⟨(d1,l1),rfl,i1,rfl,skip fun m2 h=>?_⟩
     obtain ⟨_,h,_⟩:=u5n h
     rw [hok] at h; cases h
    | true =>
     rw [if_neg (by simp)]
     have hsn:s9f (qA a th) (mom (t,p,D)) (x:Int) kp fp=_:=u9l (a:=a) (th:=th) (fp:=fp) ha hk hp hD
     rw [hsn,bS9]
     cases hbt:c46 (fr a) (to a) (al a) keep (hold a) t p x D a.Records.length with
     | none =>
      simp only [Bool.not_false,if_true]
      rw [hw1]
      refine .inl ⟨(d1,l1),rfl,i1,rfl,skip fun m2 h=>?_⟩
      obtain ⟨D',_,h,_⟩:=u5n h
      rw [hbt] at h; cases h
     | some D' =>
      simp only [Bool.not_true,fT9,if_false]
      have htr:TP a th keep ft (t,p,D) x=some (t+1,stA a th t p x,D'):=by
       unfold TP trP; rw [if_pos hok,hbt]; rfl
      have hD':=u21 hD _ _ hn8 hbt
      rw [b6d (by omega) (by simp) (by omega),bS9]
      have hhe:s9e (qA a th) (mom (t,p,D)).tick (x:Int) kp fp=some (hdT th t x):=u8i ha hth hx
      rw [hhe,bS9]
      have hst:r7y (qA a th).plant (mom (t,p,D)).place (hdT th t x)=some (stA a th t p x):=g5u ha.m hp _
      rw [hst,bS9]
      have hp':OkP a.Machine (stA a th t p x):=s1f ha.m hp _
      have hwt:wr ((mom (t,p,D)).tick+1)=((t+1:Nat):Int):=by
       show wr ((t:Int)+1)=_
       rw [b3t (by omega) (by omega)]; simp
      rw [hwt]
      obtain ⟨r,g1,g2,g3⟩:=ih (t+1) (stA a th t p x) D' d1 (l1++[(x:Int)]) (by omega) (by omega) hp' hD' i1 (by simp; omega)
      have g1':s57 (qA a th) kp fp k ⟨((t+1:Nat):Int),stA a th t p x,(D':Int)⟩ d1 (l1++[(x:Int)])=some r:=g1
      rw [g1',bS9]
      rcases g3 with ⟨e1,w,e2,e3⟩|⟨e1,e2,e3⟩
      ·rw [if_pos e1]
       refine .inr ⟨_,rfl,g2,x :: w,u8v hend hx htr e2 i3,?_⟩
       rw [e3]; simp
      ·rw [if_neg (by rw [e1]; simp),e3]
       rw [(u9p (l:=l1) (x:=(x:Int))).resolve_right (by omega),bS9,hw1]
       refine .inl ⟨(r.2.1,l1),rfl,g2,rfl,skip fun m2 h=>?_⟩
       rw [htr] at h; cases h
       exact e2) (fun s ⟨i1,i2,i3⟩=>by
    refine ⟨.inl (s.1,s.2),by simp only [u0f,Int.lt_irrefl,decide_false,fT9,if_false],i1,i2,i3⟩) 0 (Nat.zero_le _) (s:=(dead,ins)) ⟨hd,rfl,fun y hy=>by omega⟩
  rw [show (((dead,ins,(0:Int))):b54 × List Int × Int)=(dead,ins,((0:Nat):Int)) from rfl,h1,bS9]
  cases b with
  | inl d =>
   obtain ⟨i1,i2,i3⟩:=h2
   have hno:∀ w,¬ AcP a th keep ft w (t,p,D):=fun w hw=>by
    cases w with
    | nil=>exact hend (u20.1 hw)
    | cons y ys =>
     obtain ⟨_,q1,m2,q2,q3⟩:=u2z.1 hw
     exact i3 y q1 m2 q2 ys q3
   refine ⟨_,rfl,fun e he hb m hm=>?_,.inr ⟨rfl,hno,i2⟩⟩
   rcases u83 he with h|h
   ·exact i1 e h hb m hm
   ·rw [h] at hm
    rw [<- u80 hm]; exact hno
  | inr d =>
   obtain ⟨i1,w,i2,i3⟩:=h2
   exact ⟨_,rfl,i1,.inl ⟨rfl,w,i2,i3⟩⟩
theorem u9k (ha:OkA a) (hth:OkT a th) {kp:Kp} {fp:Ft} (hk:∀ i:Nat,i<a.Records.length->kp (i:Int)=some (keep i))
  (hfp : ∀ (t:Nat) (p:Place) (x:Nat),t<tA a->OkP a.Machine p->x<nA a->fp t p x=some (ft t p x)) :
  (∃ w,Lst (l27 (fr a) (to a) (al a) keep (hold a) (stA a th) (okA a ft) (nA a) (tA a) a.Records.length zero) w/\s89 a th kp fp=some (w.map (fun x:Nat=>(x:Int)),true)) \/
  ((∀ w,¬ l27 (fr a) (to a) (al a) keep (hold a) (stA a th) (okA a ft) (nA a) (tA a) a.Records.length zero w)/\s89 a th kp fp=some ([],false)):=by
 have hft:∀ i,i<a.Records.length->keep i=true->fr a i<=to a i/\to a i<tA a:=fun i hi _=>by
  obtain ⟨r,_,_,_,_,h1,h2,_⟩:=u2g ha hi
  exact ⟨h1,h2⟩
 have hiff:∀ w,AcP a th keep ft w (0,zero,0) ↔ l27 (fr a) (to a) (al a) keep (hold a) (stA a th) (okA a ft) (nA a) (tA a) a.Records.length zero w:=fun w=>u7j hft
 unfold s89
 obtain ⟨r,h1,_,h2⟩:=u44 ha hth hk hfp (a.Ticks.toNat+1) 0 zero 0 [] [] (Nat.zero_le _) (by unfold tA; omega) (o5b ha.m) (Nat.two_pow_pos 8) (fun e he=>by simp at he) (by simp)
 have h1':s57 ⟨a,⟨a.Machine⟩,th⟩ kp fp (a.Ticks.toNat+1) ⟨0,⟨0,(0,0)⟩,0⟩ [] []=some r:=h1
 rw [h1',bS9]
 rcases h2 with ⟨e1,w,e2,e3⟩|⟨e1,e2,e3⟩
 ·refine .inl ⟨w,⟨(hiff w).1 e2.1,fun l hl=>e2.2 l ((hiff l).2 hl)⟩,?_⟩
  rw [e1,if_pos rfl,e3,List.nil_append]
 ·refine .inr ⟨fun w hw=>e2 w ((hiff w).2 hw),?_⟩
  rw [e1,if_neg (by simp)]
end
end
end Go.Nw.UM
namespace Go.Nw
section
variable {π:Type} (From To:Nat->Nat) (Al:Nat->Bool) (hold:Nat->π->Nat->Bool)
def b81 (l:List Nat) (t:Nat) (p:π) (x D:Nat):Nat->Option Nat
 | 0=>some D
 | k+1=>(b81 l t p x D k).bind (y72 From To Al (fun _=>true) hold t p x (l.getD k 0))
variable {From To Al hold}
theorem u85 {t:Nat} {p:π} {x i:Nat} {b:Bool}:K51 From To Al hold t p x i (K51 From To Al hold t p x i b)=K51 From To Al hold t p x i b:=by
 unfold K51
 split
 ·cases b <;> simp
 ·rfl
theorem u4q {l:List Nat} {t:Nat} {p:π} {x D:Nat}:∀ k,k<=l.length ->
  (∀ D',b81 From To Al hold l t p x D k=some D'->(∀ i∈l.take k,L1h From To Al hold t p x i)/\∀ j,D'.testBit j=if j∈l.take k then K51 From To Al hold t p x j (D.testBit j) else D.testBit j) /\
  (b81 From To Al hold l t p x D k=none->∃ i∈l.take k,¬ L1h From To Al hold t p x i)
 | 0,_=>⟨fun D' h=>by cases h; simp,fun h=>by cases h⟩
 | k+1,hk=>by
  obtain ⟨ih1,ih2⟩:=u4q (l:=l) (t:=t) (p:=p) (x:=x) (D:=D) k (by omega)
  have et:l.take (k+1)=l.take k++[l.getD k 0]:=by
   obtain ⟨y,hy⟩:=b3b (show k<l.length by omega)
   rw [List.take_add_one,hy,List.getD_eq_getElem?_getD,hy]; rfl
  refine ⟨fun D' h=>?_,fun h=>?_⟩
  ·obtain ⟨D1,h1,h2⟩:=bE9.1 h
   obtain ⟨g1,g2⟩:=ih1 D1 h1
   obtain ⟨e1,e2⟩:=u4l h2
   refine ⟨fun i hi=>?_,fun j=>?_⟩
   ·rw [et] at hi
    rcases List.mem_append.1 hi with hi|hi
    ·exact g1 i hi
    ·rw [List.mem_singleton.1 hi]; exact e1 rfl
   ·rw [e2,et]
    by_cases e:j=l.getD k 0
    ·rw [if_pos ⟨e,rfl⟩,<- e,g2]
     rw [if_pos (show j∈l.take k++[j] from List.mem_append_right _ (List.mem_singleton.2 rfl))]
     by_cases hj:j∈l.take k
     ·rw [if_pos hj,u85]
     ·rw [if_neg hj]
    ·rw [if_neg (fun q=>e q.1),g2]
     by_cases hj:j∈l.take k
     ·rw [if_pos hj,if_pos (List.mem_append_left _ hj)]
     ·rw [if_neg hj,if_neg (fun q=>by
       rcases List.mem_append.1 q with q|q
       ·exact hj q
       ·exact e (List.mem_singleton.1 q))]
  ·unfold b81 at h
   cases h1:b81 From To Al hold l t p x D k with
   | none =>
    obtain ⟨i,a,b⟩:=ih2 h1
    exact ⟨i,by rw [et]; exact List.mem_append_left _ a,b⟩
   | some D1 =>
    rw [h1,bS9] at h
    exact ⟨_,by rw [et]; exact List.mem_append_right _ (by simp),(u4k h).2⟩
theorem u6s {l:List Nat} {n t:Nat} {p:π} {x D:Nat} {keep:Nat->Bool} (hl:∀ i,i∈l ↔ i<n/\keep i=true):b81 From To Al hold l t p x D l.length=c37 From To Al keep hold t p x D n:=by
 obtain ⟨k1,k2⟩:=u4q (From:=From) (To:=To) (Al:=Al) (hold:=hold) (l:=l) (t:=t) (p:=p) (x:=x) (D:=D) l.length (Nat.le_refl _)
 obtain ⟨d1,d2⟩:=s9g (From:=From) (To:=To) (Al:=Al) (hold:=hold) (keep:=keep) (t:=t) (p:=p) (x:=x) (D:=D) n
 rw [List.take_length] at k1 k2
 cases h1:b81 From To Al hold l t p x D l.length with
 | none =>
  cases h2:c37 From To Al keep hold t p x D n with
  | none=>rfl
  | some E =>
   obtain ⟨i,hi,hc⟩:=k2 h1
   have := (hl i).1 hi
   exact absurd ((d1 E h2).1 i this.1 this.2) hc
 | some D' =>
  cases h2:c37 From To Al keep hold t p x D n with
  | none =>
   obtain ⟨i,hi,hk,hc⟩:=d2 h2
   exact absurd ((k1 D' h1).1 i ((hl i).2 ⟨hi,hk⟩)) hc
  | some E =>
   congr 1
   refine Nat.eq_of_testBit_eq fun j=>?_
   rw [(k1 D' h1).2,(d1 E h2).2]
   by_cases hj:j∈l
   ·rw [if_pos hj,if_pos ((hl j).1 hj)]
   ·rw [if_neg hj,if_neg (fun q=>hj ((hl j).2 q))]
theorem u4o {l:List Nat} {t:Nat} {p:π} {x D k:Nat} (hD:D<2 ^ k) (hl:∀ i∈l,i<k):∀ n D',n<=l.length->b81 From To Al hold l t p x D n=some D'->D'<2 ^ k
 | 0,D',_,h=>by cases h; exact hD
 | n+1,D',hn,h=>by
  obtain ⟨D1,h1,h2⟩:=bE9.1 h
  obtain ⟨y,hy⟩:=b3b (show n<l.length by omega)
  have e:l.getD n 0=y:=by rw [List.getD_eq_getElem?_getD,hy]; rfl
  rw [e] at h2
  exact UM.bit2_lt h2 (u4o hD hl n D1 (by omega) h1) (hl y (mG9 hy))
theorem u4p {l:List Nat} {t:Nat} {p:π} {x D k:Nat} (h:b81 From To Al hold l t p x D k=none):∀ d,b81 From To Al hold l t p x D (k+d)=none
 | 0=>h
 | d+1=>by show (b81 From To Al hold l t p x D (k+d)).bind _=none; rw [u4p h d]; rfl
end
end Go.Nw
namespace Go.Nw.UM
noncomputable section
theorem p53:((List.range 16).all fun x=>(List.range 4).all fun i=>(List.range 2).all fun v=>decide (((shl .i64 1 (i:Int)).bind fun q6=>(shl .i64 (v:Int) (i:Int)).bind fun q7=>some (bor (g6a (x:Int) q6) q7))=b6a (x:Int) (i:Int) (v:Int)))=true:=by decide +kernel
theorem u46 {x i v:Nat} (hx:x<16) (hi:i<4) (hv:v<2):((shl .i64 1 (i:Int)).bind fun q6=>(shl .i64 (v:Int) (i:Int)).bind fun q7=>some (bor (g6a (x:Int) q6) q7))=b6a x i v:=by
 have h:=List.all_eq_true.1 p53 x (List.mem_range.2 hx)
 have h:=List.all_eq_true.1 h i (List.mem_range.2 hi)
 have h:=List.all_eq_true.1 h v (List.mem_range.2 hv)
 simpa only [decide_eq_true_eq] using h
theorem u47 {a:Accident} {th:Theory} (ha:OkA a) (hth:OkT a th) {t x:Nat} (hx:x<nA a):s86 th t x=some (hdT th t x):=by
 rw [<- w9w ha hth]
 have hn:=u3y ha
 have hz:=ha.m.z.i
 unfold hdO s86
 by_cases hc:(decide (th.Input<0) || decide ((t:Int)<th.From))=true
 ·rw [if_pos hc,if_pos hc]
 ·rw [if_neg hc,if_neg hc]
  simp only [Bool.or_eq_true,decide_eq_true_eq] at hc
  rcases u5f hth ha with ⟨h1,h2,h3⟩|⟨h1,h2,h3⟩
  ·omega
  ·unfold In at h1
   obtain ⟨i,hi⟩:∃ i:Nat,th.Input=i:=⟨th.Input.toNat,by omega⟩
   obtain ⟨v,hv⟩:∃ i:Nat,th.Value=i:=⟨th.Value.toNat,by omega⟩
   rw [hi,hv,u46 (by omega) (by omega) (by omega)]
   cases b6a (x:Int) (i:Int) (v:Int) <;> rfl
def toI (l:List Nat):List Int:=l.map (fun i:Nat=>(i:Int))
theorem u5m {l:List Nat} {k i:Nat} (h:l[k]?=some i):get (toI l) (k:Int)=some (i:Int):=b1h (by unfold toI; rw [List.getElem?_map,h]; rfl)
theorem L1q {l:List Nat}:(toI l).length=l.length:=by simp [toI]
def c49 (l:List Nat) (i:Nat):Bool:=decide (i∈l)
def ftT (_:Nat) (_:Place) (_:Nat):Bool:=true
abbrev TD (a:Accident) (th:Theory) (l:List Nat):Nat × Place × Nat->Nat->Option (Nat × Place × Nat) :=
 trD (fr a) (to a) (al a) (c49 l) (hold a) (stA a th) (okA a ftT) a.Records.length
def kn (s:Place × Nat):r10_knot:=⟨s.1,(s.2:Int)⟩
theorem s9n {s s':Place × Nat} (h:kn s=kn s'):s=s':=by
 unfold kn at h
 injection h with h1 h2
 obtain ⟨a,b⟩:=s; obtain ⟨a',b'⟩:=s'
 simp only at h1 h2
 rw [h1,show b=b' by omega]
section
variable {a:Accident} {th:Theory} {l:List Nat}
theorem u1f {m m':Nat × Place × Nat} {x:Nat} (h:TD a th l m x=some m'):∃ D',okA a ftT m.1 m.2.1 x=true/\c37 (fr a) (to a) (al a) (c49 l) (hold a) m.1 m.2.1 x m.2.2 a.Records.length=some D'/\m'=(m.1+1,stA a th m.1 m.2.1 x,D'):=by
 unfold TD trD at h
 split at h
 ·rename_i ho
  obtain ⟨D',h1,rfl⟩:=mE9.1 h
  exact ⟨D',ho,h1,rfl⟩
 ·cases h
theorem u4d (ha:OkA a) (hth:OkT a th) (hl:∀ i∈l,i<a.Records.length) (hl8:l.length<=8) {m:Nat × Place × Nat} (hp:OkP a.Machine m.2.1) (hD:m.2.2<2 ^ 8) {x:Nat} (hx:x<nA a) :
  ∃ k b,l97 a th (toI l) (m.1:Int) (kn m.2) (x:Int)=some (k,b)/\(match TD a th l m x with|some m'=>b=true/\k=kn m'.2|none=>b=false):=by
 obtain ⟨t,p,D⟩:=m
 simp only at hp hD
 have hn8:=ha.n
 unfold l97
 have hal:c0t a.Machine (Place.mk (kn (p,D)).place.State ((kn (p,D)).place.Values.1,(kn (p,D)).place.Values.2)) (x:Int) a.Assume=some (c25 a.Machine p (x:Int) a.Assume):=d5o ha.m.z hp.s ha.asu
 simp only [hal,bS9]
 have hok:okA a ftT t p x=c25 a.Machine p (x:Int) a.Assume:=by unfold okA ftT; simp
 cases hA:c25 a.Machine p (x:Int) a.Assume with
 | false =>
  rw [if_pos (by rfl)]
  refine ⟨_,_,rfl,?_⟩
  have : TD a th l (t,p,D) x=none:=by unfold TD trD; rw [if_neg (by rw [hok,hA]; simp)]
  rw [this]
 | true =>
  rw [if_neg (by simp)]
  have hTD:TD a th l (t,p,D) x=(b81 (fr a) (to a) (al a) (hold a) l t p x D l.length).map fun D'=>(t+1,stA a th t p x,D'):=by
   unfold TD trD
   rw [if_pos (by rw [hok,hA])]
   rw [u6s (n:=a.Records.length) (keep:=c49 l) fun i=>⟨fun h=>⟨hl i h,by simp [c49,h]⟩,fun h=>by simpa [c49] using h.2⟩]
  obtain ⟨b,h1,h2⟩:=j7u (f:=s92 a (toI l) (t:Int) (kn (p,D)) (x:Int)) l.length (fun s k=>(s,k)) (fun k s=>∃ E:Nat,s=(E:Int)/\b81 (fr a) (to a) (al a) (hold a) l t p x D k=some E)
   (fun b=>match b81 (fr a) (to a) (al a) (hold a) l t p x D l.length with|some D'=>b = .inl (D':Int)|none=>∃ k,b = .inr (k,false)) (fun s k hkn ⟨E,hs,hE⟩=>by
    subst hs
    obtain ⟨i,hi⟩:=b3b hkn
    have hin:=hl i (mG9 hi)
    have eg:l.getD k 0=i:=by rw [List.getD_eq_getElem?_getD,hi]; rfl
    obtain ⟨r,hr,e,ef,et,_,_,hc⟩:=u2g ha hin
    have hE8:=u4o (k:=8) hD (fun j hj=>by have:=hl j hj; omega) k E (by omega) hE
    have he:E<9223372036854775808:=Nat.lt_of_lt_of_le hE8 (by decide)
    have hpw:2 ^ i<9223372036854775808:=u3z (by omega)
    have hact:((decide ((t:Int)<r.From)) || (decide (r.To<(t:Int))))=!act (fr a) (to a) t i:=by
     rw [ef,et,Bool.eq_iff_iff]; unfold act; simp
    have hAl:al a i=r.All:=by unfold al; rw [e]
    have hh:hold a i p x=b46 a.Machine p (x:Int) r.Cond:=by unfold hold; rw [e]
    have hbr:y72 (fr a) (to a) (al a) (fun _=>true) (hold a) t p x i E=none->b81 (fr a) (to a) (al a) (hold a) l t p x D l.length=none:=fun hb=>by
     have h3:b81 (fr a) (to a) (al a) (hold a) l t p x D (k+1)=none:=by
      show (b81 (fr a) (to a) (al a) (hold a) l t p x D k).bind _=none
      rw [hE,bS9,eg,hb]
     have h4:=u4p h3 (l.length - (k+1))
     rwa [show k+1+(l.length - (k+1))=l.length by omega] at h4
    have hnx:∀ E',y72 (fr a) (to a) (al a) (fun _=>true) (hold a) t p x i E=some E'->∃ E2:Nat,(E':Int)=(E2:Int)/\b81 (fr a) (to a) (al a) (hold a) l t p x D (k+1)=some E2:=fun E' hb=>⟨E',rfl,by
     show (b81 (fr a) (to a) (al a) (hold a) l t p x D k).bind _=_
     rw [hE,bS9,eg,hb]⟩
    unfold s92
    simp only [u5m hi,b1h hr,bS9,L1q,Int.ofNat_lt,hkn,decide_true,if_true,hact]
    unfold y72 at hbr hnx
    have hw:wr ((k:Int)+1)=(k:Int)+1:=b2r hkn (D5s hl8)
    by_cases c0:act (fr a) (to a) t i=true
    ·simp only [c0,Bool.and_self,if_true] at hbr hnx
     rw [if_neg (by rw [c0]; simp)]
     have hHo:b7o a.Machine (Place.mk (kn (p,D)).place.State ((kn (p,D)).place.Values.1,(kn (p,D)).place.Values.2)) (x:Int) r.Cond=some (b46 a.Machine p (x:Int) r.Cond):=c5x ha.m.z hp.s hc
     rw [hHo,bS9,<- hh,<- hAl]
     by_cases c1:(al a i && !hold a i p x)=true
     ·rw [if_pos c1] at hbr ⊢
      exact .inr ⟨_,rfl,by rw [hbr rfl]; exact ⟨_,rfl⟩⟩
     ·rw [if_neg c1] at hbr hnx ⊢
      by_cases c2:(!al a i && hold a i p x)=true
      ·rw [if_pos c2] at hnx ⊢
       rw [u4e (by omega),u1e (by omega),bS9,u22 he hpw]
       unfold s8z
       rw [hw]
       exact .inl ⟨_,rfl,hnx _ rfl⟩
      ·rw [if_neg c2] at hnx ⊢
       unfold s8z
       rw [hw]
       exact .inl ⟨_,rfl,hnx _ rfl⟩
    ·simp only [c0,Bool.and_false,fT9,if_false] at hbr hnx
     rw [if_pos (by simp [c0])]
     unfold s8z
     rw [hw]
     exact .inl ⟨_,rfl,hnx _ rfl⟩) (fun s ⟨E,hs,hE⟩=>by
    subst hs
    refine ⟨.inl (E:Int),by unfold s92; simp only [L1q,Int.lt_irrefl,decide_false,fT9,if_false],?_⟩
    rw [hE]) 0 (Nat.zero_le _) (s:=(D:Int)) ⟨D,rfl,rfl⟩
  have h1':b0w (s92 a (toI l) (t:Int) (kn (p,D)) (x:Int)) ((kn (p,D)).done,0)=some b:=h1
  rw [h1',bS9,hTD]
  cases h3:b81 (fr a) (to a) (al a) (hold a) l t p x D l.length with
  | some D' =>
   rw [h3] at h2
   subst h2
   simp only [Option.map_some]
   unfold u2e
   rw [u47 ha hth hx,bS9]
   have hN:c0w a.Machine (Place.mk (kn (p,D)).place.State ((kn (p,D)).place.Values.1,(kn (p,D)).place.Values.2)) (hdT th t x)=some (stA a th t p x):=d5u ha.m hp _
   rw [hN,bS9]
   exact ⟨_,_,rfl,rfl,rfl⟩
  | none =>
   rw [h3] at h2
   obtain ⟨k,rfl⟩:=h2
   exact ⟨_,_,rfl,rfl⟩
theorem x84 {l:List r10_knot} (hl:l.length<=1048576) (k:r10_knot):∃ j,s8y l k=some j/\(0<=j ↔ k∈l):=by
 unfold s8y u13
 rw [c7s (f:=s9t l k) (n:=l.length) (p:=fun i=>decide (l[i]?=some k)) (e:=fun i=>.inr (i:Int)) (u:=.inl ()) (fun t ht hp=>by
   have hg:l[t]?=some k:=of_decide_eq_true hp
   unfold s9t
   simp only [Int.ofNat_lt,ht,decide_true,if_true,b1h hg,bS9]) (fun t ht hp=>by
   obtain ⟨y,hy⟩:=b3b ht
   have hne:¬ y=k:=fun e=>by rw [<- e] at hp; simp [hy] at hp
   unfold s9t
   simp only [Int.ofNat_lt,ht,decide_true,if_true,b1h hy,bS9,hne,decide_false,fT9,if_false,b2r ht (d7y hl)]) (by
   unfold s9t; simp only [Int.lt_irrefl,decide_false,fT9,if_false])]
 cases h:b5q l.length (fun i=>decide (l[i]?=some k)) with
 | none =>
  refine ⟨-1,rfl,?_⟩
  rw [d72] at h
  constructor
  ·intro q; omega
  ·intro q
   obtain ⟨i,hi⟩:=b1d.1 q
   have := h i (b1k hi)
   simp [hi] at this
 | some i =>
  refine ⟨(i:Int),rfl,?_⟩
  obtain ⟨h1,h2,_⟩:=j00 h
  exact ⟨fun _=>b1d.2 ⟨i,of_decide_eq_true h2⟩,fun _=>by omega⟩
theorem u5e (ha:OkA a):shl .i64 1 (IntKind.wrap .u64 (List.length a.Machine.Inputs:Int))=some ((nA a:Nat):Int):=by
 have := ha.m.z.i
 rw [u4e (by omega),u1e (by omega)]; rfl
end
end
end Go.Nw.UM
namespace Go.Nw.UM
noncomputable section
def Rch (a:Accident) (th:Theory) (l:List Nat):Nat->Place × Nat->Prop
 | 0,s=>s=(zero,0)
 | t+1,s'=>∃ s,Rch a th l t s/\∃ x,x<nA a/\TD a th l (t,s) x=some (t+1,s')
def AcD (a:Accident) (th:Theory) (l:List Nat) (want:Nat) (w:List Nat) (m:Nat × Place × Nat):Prop:=Acc (TD a th l) (c40 (tA a) want) (nA a) w m
def b64 (a:Accident) (th:Theory) (l:List Nat) (want:Nat) (m:Nat × Place × Nat):Prop:=∃ w,AcD a th l want w m
section
variable {a:Accident} {th:Theory} {l:List Nat} {want:Nat}
theorem u2f (ha:OkA a):∀ {t s},Rch a th l t s->OkP a.Machine s.1/\s.2<2 ^ 8
 | 0,s,h=>by
  have : s=(zero,0):=h
  subst this; exact ⟨o5b ha.m,Nat.two_pow_pos 8⟩
 | t+1,s',h=>by
  obtain ⟨s,h1,x,h2,h3⟩:=h
  obtain ⟨g1,g2⟩:=u2f ha h1
  obtain ⟨D',_,e2,e3⟩:=u1f h3
  simp only [Prod.mk.injEq,true_and] at e3
  subst e3
  exact ⟨s1f ha.m g1 _,u4m g2 _ _ ha.n e2⟩
theorem u2y {w:List Nat} {m:Nat × Place × Nat} (hm:m.1=tA a):AcD a th l want w m ↔ w=[]/\m.2.2=want:=by
 unfold AcD
 cases w with
 | nil=>rw [Acc]; unfold c40; simp [hm]
 | cons x xs =>
  constructor
  ·rintro h
   -- behind the last tick nothing is accepted
   have late:∀ (ys:List Nat) (m:Nat × Place × Nat),tA a<m.1->¬ Acc (TD a th l) (c40 (tA a) want) (nA a) ys m:=by
    intro ys
    induction ys with
    | nil=>intro m hm h; simp [Acc,c40] at h; omega
    | cons y ys ih =>
     rintro m hm ⟨_,_,m2,g1,g2⟩
     obtain ⟨_,_,_,rfl⟩:=u1f g1
     exact ih _ (by show tA a<m.1+1; omega) g2
   obtain ⟨_,_,m2,g1,g2⟩:=h
   obtain ⟨_,_,_,rfl⟩:=u1f g1
   exact absurd g2 (late _ _ (by show tA a<m.1+1; omega))
  ·rintro ⟨h,_⟩; cases h
theorem u1t {m:Nat × Place × Nat} {x:Nat} {xs:List Nat} (hm:m.1<tA a):AcD a th l want (x :: xs) m ↔ x<nA a/\∃ m',TD a th l m x=some m'/\AcD a th l want xs m':=by
 unfold AcD
 rw [Acc]
 constructor
 ·rintro ⟨_,h⟩; exact h
 ·intro h
  refine ⟨?_,h⟩
  unfold c40; simp; omega
theorem u5b {m:Nat × Place × Nat} (hm:m.1<tA a):b64 a th l want m ↔ ∃ x,x<nA a/\∃ m',TD a th l m x=some m'/\b64 a th l want m':=by
 constructor
 ·rintro ⟨w,hw⟩
  cases w with
  | nil=>unfold AcD at hw; rw [Acc] at hw; unfold c40 at hw; simp at hw; omega
  | cons x xs =>
   obtain ⟨h1,m',h2,h3⟩:=(u1t hm).1 hw
   exact ⟨x,h1,m',h2,xs,h3⟩
 ·rintro ⟨x,h1,m',h2,xs,h3⟩
  exact ⟨x :: xs,(u1t hm).2 ⟨h1,m',h2,h3⟩⟩
theorem u1x (k:r10_knot):r10_knot.mk (Place.mk k.place.State (k.place.Values.1,k.place.Values.2)) k.done=k:=rfl
def s8t (a:Accident) (th:Theory) (l:List Nat) (t:Nat) (row:List r10_knot):Prop:=row.length<=4 ^ t/\∀ k,k∈row ↔ ∃ s,Rch a th l t s/\k=kn s
def L1j (a:Accident) (th:Theory) (l:List Nat) (want t:Nat) (row:List r10_knot):Prop:=row.length<=4 ^ t/\∀ k,k∈row ↔ ∃ s,Rch a th l t s/\b64 a th l want (t,s)/\k=kn s
theorem u00 {t:Nat} (h:t<=6):4 ^ t<=4096:=Nat.pow_le_pow_right (n:=4) (by omega) h
theorem nA4 (hs:Small a):nA a<=4:=Nat.pow_le_pow_right (n:=2) (by omega) hs.i
theorem tA6 (hs:Small a):tA a<=6:=by have:=hs.t; have:=hs.ok.t; unfold tA; omega
variable (hs:Small a) (hth:OkT a th) (hl:∀ i∈l,i<a.Records.length) (hl8:l.length<=8)
include hs hth hl hl8
theorem u7m {rows:List (List r10_knot)} {row:List r10_knot} {t i:Nat} {s:Place × Nat} (hr:rows[t]?=some row) (hi:row[i]?=some (kn s)) (hp:OkP a.Machine s.1) (hD:s.2<2 ^ 8) {next:List r10_knot} (hn:next.length<=100000) :
  ∃ nx,b0w (s9v a th (toI l) ((nA a:Nat):Int) rows (t:Int) (i:Int)) (next,0)=some nx/\nx.length<=next.length+nA a/\∀ k,k∈nx ↔ k∈next\/∃ y,y<nA a/\∃ m',TD a th l (t,s) y=some m'/\k=kn m'.2:=by
 have h4:=nA4 hs
 obtain ⟨b,h1,h2⟩:=j7u (f:=s9v a th (toI l) ((nA a:Nat):Int) rows (t:Int) (i:Int)) (nA a) (fun s k=>(s,k))
  (fun x nx=>nx.length<=next.length+x/\∀ k,k∈nx ↔ k∈next\/∃ y,y<x/\∃ m',TD a th l (t,s) y=some m'/\k=kn m'.2)
  (fun nx=>nx.length<=next.length+nA a/\∀ k,k∈nx ↔ k∈next\/∃ y,y<nA a/\∃ m',TD a th l (t,s) y=some m'/\k=kn m'.2) (fun nx x hx ⟨i1,i2⟩=>by
   obtain ⟨k,b,g1,g2⟩:=u4d (m:=(t,s)) hs.ok hth hl hl8 hp hD hx
   have hw:wr ((x:Int)+1)=(x:Int)+1:=b2r hx (by simp only [maxLen]; omega)
   have hnx:∀ k',(k'∈next\/∃ y,y<x+1/\∃ m',TD a th l (t,s) y=some m'/\k'=kn m'.2) ↔ k'∈nx\/∃ m',TD a th l (t,s) x=some m'/\k'=kn m'.2:=fun k'=>by
    rw [i2 k']
    constructor
    ·rintro (h|⟨y,h1,h2⟩)
     ·exact .inl (.inl h)
     ·by_cases e:y=x
      ·subst e; exact .inr h2
      ·exact .inl (.inr ⟨y,by omega,h2⟩)
    ·rintro ((h|⟨y,h1,h2⟩)|h)
     ·exact .inl h
     ·exact .inr ⟨y,by omega,h2⟩
     ·exact .inr ⟨x,by omega,h⟩
   have hxx:((x:Int)<((nA a:Nat):Int)):=by omega
   unfold s9v
   simp only [hxx,decide_true,if_true,b1h hr,b1h hi,bS9,u1x]
   rw [show l97 a th (toI l) (t:Int) (kn s) (x:Int)=_ from g1,bS9]
   unfold u07
   cases ht:TD a th l (t,s) x with
   | none =>
    rw [ht] at g2
    simp only at g2
    subst g2
    simp only [fT9,if_false,bS9,hw]
    refine .inl ⟨nx,rfl,by omega,fun k'=>?_⟩
    rw [hnx k',ht]; simp
   | some m' =>
    rw [ht] at g2
    simp only at g2
    obtain ⟨rfl,rfl⟩:=g2
    simp only [if_true]
    obtain ⟨j,j1,j2⟩:=x84 (l:=nx) (by omega) (kn m'.2)
    rw [j1,bS9,bS9]
    by_cases hj:kn m'.2∈nx
    ·have := j2.2 hj
     rw [if_neg (by simp; omega),hw]
     refine .inl ⟨nx,rfl,by omega,fun k'=>?_⟩
     rw [hnx k',ht]
     constructor
     ·exact .inl
     ·rintro (h|⟨m2,h3,h4⟩)
      ·exact h
      ·cases h3; rw [h4]; exact hj
    ·have : j<0:=by
      rcases (show j<0\/0<=j by omega) with h|h
      ·exact h
      ·exact absurd (j2.1 h) hj
     rw [if_pos (by simp; omega),b6x (by omega) (by simp) (by omega),bS9,hw]
     refine .inl ⟨nx++[kn m'.2],rfl,by simp; omega,fun k'=>?_⟩
     rw [hnx k',ht,List.mem_append,List.mem_singleton]
     constructor
     ·rintro (h|h)
      ·exact .inl h
      ·exact .inr ⟨m',rfl,h⟩
     ·rintro (h|⟨m2,h3,h4⟩)
      ·exact .inl h
      ·cases h3; exact .inr h4) (fun nx ⟨i1,i2⟩=>by
   refine ⟨nx,?_,i1,i2⟩
   unfold s9v
   simp only [Int.lt_irrefl,decide_false,fT9,if_false]) 0 (Nat.zero_le _) (s:=next) ⟨by omega,fun k=>by simp⟩
 exact ⟨b,h1,h2⟩
theorem u7n {rows:List (List r10_knot)} {row:List r10_knot} {t:Nat} (ht:t<=6) (hr:rows[t]?=some row) (hrow:s8t a th l t row) :
  ∃ nx,b0w (s9w a th (toI l) ((nA a:Nat):Int) rows (t:Int)) ([],0)=some nx/\s8t a th l (t+1) nx:=by
 have h4:=nA4 hs
 have hp4:=u00 ht
 obtain ⟨hlen,hmem⟩:=hrow
 obtain ⟨b,h1,h2⟩:=j7u (f:=s9w a th (toI l) ((nA a:Nat):Int) rows (t:Int)) row.length (fun s k=>(s,k))
  (fun i nx=>nx.length<=i * 4/\∀ k,k∈nx ↔ ∃ j s,j<i/\row[j]?=some (kn s)/\∃ y,y<nA a/\∃ m',TD a th l (t,s) y=some m'/\k=kn m'.2)
  (fun nx=>nx.length<=row.length * 4/\∀ k,k∈nx ↔ ∃ j s,j<row.length/\row[j]?=some (kn s)/\∃ y,y<nA a/\∃ m',TD a th l (t,s) y=some m'/\k=kn m'.2) (fun nx i hi ⟨i1,i2⟩=>by
   obtain ⟨k,hk⟩:=b3b hi
   obtain ⟨s,hs1,rfl⟩:=(hmem k).1 (b1d.2 ⟨i,hk⟩)
   obtain ⟨hp,hD⟩:=u2f hs.ok hs1
   obtain ⟨nx',g1,g2,g3⟩:=u7m hs hth hl hl8 hr hk hp hD (next:=nx) (by omega)
   unfold s9w
   simp only [b1h hr,bS9,Int.ofNat_lt,hi,decide_true,if_true,g1]
   unfold u14
   rw [b2r hi (by simp only [maxLen]; omega)]
   refine .inl ⟨nx',rfl,by omega,fun k'=>?_⟩
   rw [g3 k',i2 k']
   constructor
   ·rintro (⟨j,s2,q1,q2⟩|h)
    ·exact ⟨j,s2,by omega,q2⟩
    ·exact ⟨i,s,by omega,hk,h⟩
   ·rintro ⟨j,s2,q1,q2,q3⟩
    by_cases e:j=i
    ·subst e
     rw [hk] at q2
     have := s9n (Option.some.inj q2)
     subst this
     exact .inr q3
    ·exact .inl ⟨j,s2,by omega,q2,q3⟩) (fun nx ⟨i1,i2⟩=>by
   refine ⟨nx,?_,i1,i2⟩
   unfold s9w
   simp only [b1h hr,bS9,Int.lt_irrefl,decide_false,fT9,if_false]) 0 (Nat.zero_le _) (s:=[]) ⟨by simp,fun k=>by simp⟩
 obtain ⟨g1,g2⟩:=h2
 refine ⟨b,h1,by rw [Nat.pow_succ]; omega,fun k=>?_⟩
 rw [g2 k]
 constructor
 ·rintro ⟨j,s,_,q2,y,q3,m',q4,q5⟩
  obtain ⟨s2,r1,r2⟩:=(hmem (kn s)).1 (b1d.2 ⟨j,q2⟩)
  have := s9n r2
  subst this
  obtain ⟨D',_,_,e⟩:=u1f q4
  refine ⟨m'.2,⟨s,r1,y,q3,?_⟩,q5⟩
  rw [q4,e]
 ·rintro ⟨s',⟨s,r1,y,q3,q4⟩,q5⟩
  obtain ⟨j,hj⟩:=b1d.1 ((hmem (kn s)).2 ⟨s,r1,rfl⟩)
  exact ⟨j,s,b1k hj,hj,y,q3,_,q4,q5⟩
theorem u7l:∃ rows,b0w (s9x a th (toI l) ((nA a:Nat):Int)) ([[(r10_knot.mk (Place.mk 0 (0,0)) 0)]],0)=some rows/\rows.length=tA a+1/\∀ t,t<=tA a->∃ row,rows[t]?=some row/\s8t a th l t row:=by
 have h6:=tA6 hs
 have hT:=s9b hs.ok
 obtain ⟨b,h1,h2⟩:=j7u (f:=s9x a th (toI l) ((nA a:Nat):Int)) (tA a) (fun s k=>(s,k))
  (fun t rows=>rows.length=t+1/\∀ u,u<=t->∃ row,rows[u]?=some row/\s8t a th l u row)
  (fun rows=>rows.length=tA a+1/\∀ u,u<=tA a->∃ row,rows[u]?=some row/\s8t a th l u row) (fun rows t ht ⟨i1,i2⟩=>by
   obtain ⟨row,hr,hrow⟩:=i2 t (Nat.le_refl _)
   obtain ⟨nx,g1,g2⟩:=u7n hs hth hl hl8 (by omega) hr hrow
   have htt:((t:Int)<a.Ticks):=by omega
   unfold s9x
   simp only [htt,decide_true,if_true,g1,bS9]
   unfold u2c u2b
   rw [b6d (by omega) (by simp) (by omega),bS9,b2r ht (by simp only [maxLen]; omega)]
   refine .inl ⟨rows++[nx],rfl,by simp; omega,fun u hu=>?_⟩
   by_cases e:u=t+1
   ·subst e
    exact ⟨nx,by rw [List.getElem?_append_right (by omega),i1]; simp,g2⟩
   ·obtain ⟨r2,q1,q2⟩:=i2 u (by omega)
    exact ⟨r2,by rw [List.getElem?_append_left (by omega)]; exact q1,q2⟩) (fun rows ⟨i1,i2⟩=>by
   refine ⟨rows,?_,i1,i2⟩
   unfold s9x
   simp only [hT,Int.lt_irrefl,decide_false,fT9,if_false]) 0 (Nat.zero_le _) (s:=[[(r10_knot.mk (Place.mk 0 (0,0)) 0)]]) ⟨rfl,fun u hu=>by
   have : u=0:=by omega
   subst this
   refine ⟨[(r10_knot.mk (Place.mk 0 (0,0)) 0)],rfl,by simp,fun k=>?_⟩
   rw [List.mem_singleton]
   constructor
   ·rintro rfl; exact ⟨(zero,0),rfl,rfl⟩
   ·rintro ⟨s,h,rfl⟩
    have : s=(zero,0):=h
    subst this; rfl⟩
 exact ⟨b,h1,h2⟩
omit hs hth hl8 in
theorem v01 (ha:OkA a) (hl8:l.length<=8):∃ W:Nat,b0w (s9y a (toI l)) (0,0)=some (W:Int)/\W<2 ^ 8/\u0c (al a) (c49 l) a.Records.length W:=by
 have hn8:=ha.n
 obtain ⟨b,h1,W,rfl,h2,h3⟩:=j7u (f:=s9y a (toI l)) l.length (fun s k=>(s,k))
  (fun k s=>∃ W:Nat,s=(W:Int)/\W<2 ^ 8/\∀ j,W.testBit j=(decide (j∈l.take k) && !al a j))
  (fun s=>∃ W:Nat,s=(W:Int)/\W<2 ^ 8/\∀ j,W.testBit j=(decide (j∈l) && !al a j)) (fun s k hk ⟨W,hW,i1,i2⟩=>by
   subst hW
   obtain ⟨i,hi⟩:=b3b hk
   have hin:=hl i (mG9 hi)
   obtain ⟨r,hr,e,_⟩:=u2g ha hin
   have hAl:al a i=r.All:=by unfold al; rw [e]
   have et:l.take (k+1)=l.take k++[i]:=by rw [List.take_add_one,hi]; rfl
   unfold s9y
   simp only [u5m hi,b1h hr,bS9,L1q,Int.ofNat_lt,hk,decide_true,if_true]
   unfold u1a
   rw [b2r hk (D5s hl8),<- hAl]
   cases hA:al a i with
   | true =>
    rw [if_neg (by simp)]
    refine .inl ⟨_,rfl,W,rfl,i1,fun j=>?_⟩
    rw [i2 j,et]
    by_cases e:j=i
    ·subst e; simp [hA]
    ·simp [e]
   | false =>
    rw [if_pos (by simp),u4e (by omega),u1e (by omega),bS9,u22 (Nat.lt_of_lt_of_le i1 (by decide)) (u3z (by omega))]
    refine .inl ⟨_,rfl,W ||| 2 ^ i,rfl,u1d i1 (by omega),fun j=>?_⟩
    rw [u9m,i2 j,et]
    by_cases e:j=i
    ·subst e; simp [hA]
    ·simp [e]) (fun s ⟨W,hW,i1,i2⟩=>by
   subst hW
   rw [List.take_length] at i2
   refine ⟨_,?_,W,rfl,i1,i2⟩
   unfold s9y
   simp only [L1q,Int.lt_irrefl,decide_false,fT9,if_false]) 0 (Nat.zero_le _) (s:=0) ⟨0,rfl,Nat.two_pow_pos 8,fun j=>by simp⟩
 refine ⟨W,h1,h2,fun j=>?_⟩
 rw [h3 j]
 by_cases hj:j∈l
 ·simp [hj,c49,hl j hj]
 ·simp [hj,c49]
end
end
end Go.Nw.UM
namespace Go.Nw.UM
noncomputable section
section
variable {a:Accident} {th:Theory} {l:List Nat} {want:Nat}
theorem u5h {t:Nat} {s:Place × Nat} {x:Nat} {m':Nat × Place × Nat} (hr:Rch a th l t s) (hx:x<nA a) (h:TD a th l (t,s) x=some m'):m'.1=t+1/\Rch a th l (t+1) m'.2/\m'=(t+1,m'.2):=by
 obtain ⟨D',_,_,e⟩:=u1f h
 subst e
 exact ⟨rfl,⟨s,hr,x,hx,h⟩,rfl⟩
theorem u8q (hs:Small a) {rows:List (List r10_knot)} {row:List r10_knot} (hr:rows[tA a]?=some row) (hrow:s8t a th l (tA a) row) :
  ∃ nx,b0w (s9z a rows (want:Int)) ([],0)=some nx/\L1j a th l want (tA a) nx:=by
 have hp4:=u00 (tA6 hs)
 have hT:=s9b hs.ok
 obtain ⟨hlen,hmem⟩:=hrow
 obtain ⟨b,h1,h2,h3⟩:=j7u (f:=s9z a rows (want:Int)) row.length (fun s k=>(s,k))
  (fun i nx=>nx.length<=i/\∀ k,k∈nx ↔ ∃ j,j<i/\row[j]?=some k/\k.done=(want:Int))
  (fun nx=>nx.length<=row.length/\∀ k,k∈nx ↔ ∃ j,j<row.length/\row[j]?=some k/\k.done=(want:Int)) (fun nx i hi ⟨i1,i2⟩=>by
   obtain ⟨k,hk⟩:=b3b hi
   unfold s9z
   simp only [<- hT,b1h hr,b1h hk,bS9,Int.ofNat_lt,hi,decide_true,if_true,u1x]
   unfold u09
   have hw:wr ((i:Int)+1)=(i:Int)+1:=b2r hi (by simp only [maxLen]; omega)
   by_cases c:k.done=(want:Int)
   ·rw [if_pos (by simp [c]),b6x (by omega) (by simp) (by omega),bS9,hw]
    refine .inl ⟨_,rfl,by simp; omega,fun k'=>?_⟩
    rw [List.mem_append,List.mem_singleton,i2 k']
    constructor
    ·rintro (⟨j,q1,q2⟩|rfl)
     ·exact ⟨j,by omega,q2⟩
     ·exact ⟨i,by omega,hk,c⟩
    ·rintro ⟨j,q1,q2,q3⟩
     by_cases e:j=i
     ·subst e; rw [hk] at q2; cases q2; exact .inr rfl
     ·exact .inl ⟨j,by omega,q2,q3⟩
   ·rw [if_neg (by simp [c]),hw]
    refine .inl ⟨_,rfl,by omega,fun k'=>?_⟩
    rw [i2 k']
    constructor
    ·rintro ⟨j,q1,q2⟩; exact ⟨j,by omega,q2⟩
    ·rintro ⟨j,q1,q2,q3⟩
     by_cases e:j=i
     ·subst e; rw [hk] at q2; cases q2; exact absurd q3 c
     ·exact ⟨j,by omega,q2,q3⟩) (fun nx ⟨i1,i2⟩=>by
   refine ⟨nx,?_,i1,i2⟩
   unfold s9z
   simp only [<- hT,b1h hr,bS9,Int.lt_irrefl,decide_false,fT9,if_false]) 0 (Nat.zero_le _) (s:=[]) ⟨by simp,fun k=>by simp⟩
 refine ⟨b,h1,by omega,fun k=>?_⟩
 rw [h3 k]
 constructor
 ·rintro ⟨j,_,q2,q3⟩
  obtain ⟨s,r1,rfl⟩:=(hmem k).1 (b1d.2 ⟨j,q2⟩)
  refine ⟨s,r1,⟨[],(u2y rfl).2 ⟨rfl,?_⟩⟩,rfl⟩
  have : ((s.2:Nat):Int)=(want:Int):=q3
  show s.2=want; omega
 ·rintro ⟨s,r1,⟨w,hw⟩,rfl⟩
  obtain ⟨j,hj⟩:=b1d.1 ((hmem _).2 ⟨s,r1,rfl⟩)
  refine ⟨j,b1k hj,hj,?_⟩
  have : s.2=want:=((u2y (m:=(tA a,s)) rfl).1 hw).2
  show ((s.2:Nat):Int)=_; rw [this]
variable (hs:Small a) (hth:OkT a th) (hl:∀ i∈l,i<a.Records.length) (hl8:l.length<=8)
include hs hth hl hl8
theorem u7d {rows:List (List r10_knot)} {row nrow:List r10_knot} {t i:Nat} {s:Place × Nat} (ht:t<tA a) (hr:rows[t]?=some row) (hi:row[i]?=some (kn s)) (hn:rows[t+1]?=some nrow) (hnrow:L1j a th l want (t+1) nrow) (hR:Rch a th l t s) :
  ∃ b,b0w (s90 a th (toI l) ((nA a:Nat):Int) rows (t:Int) (i:Int)) (false,0)=some b/\(b=true ↔ b64 a th l want (t,s)):=by
 have h4:=nA4 hs
 have h6:=tA6 hs
 have hp4:=u00 (show t+1<=6 by omega)
 obtain ⟨hlen,hmem⟩:=hnrow
 obtain ⟨hp,hD⟩:=u2f hs.ok hR
 rw [u5b (m:=(t,s)) ht]
 obtain ⟨b,h1,h2⟩:=j7u (f:=s90 a th (toI l) ((nA a:Nat):Int) rows (t:Int) (i:Int)) (nA a) (fun s k=>(s,k))
  (fun x b=>b=true ↔ ∃ y,y<x/\∃ m',TD a th l (t,s) y=some m'/\b64 a th l want m')
  (fun b=>b=true ↔ ∃ y,y<nA a/\∃ m',TD a th l (t,s) y=some m'/\b64 a th l want m') (fun b x hx i1=>by
   have hxx:((x:Int)<((nA a:Nat):Int)):=by omega
   unfold s90
   dsimp only
   cases b with
   | true =>
    rw [if_neg (by simp)]
    refine .inr ⟨true,rfl,fun _=>?_,fun _=>rfl⟩
    obtain ⟨y,hy,q⟩:=i1.1 rfl
    exact ⟨y,by omega,q⟩
   | false =>
    rw [if_pos (by simp [hxx])]
    obtain ⟨k,b,g1,g2⟩:=u4d (m:=(t,s)) hs.ok hth hl hl8 hp hD hx
    have hwt:wr ((t:Int)+1)=((t+1:Nat):Int):=by rw [b3t (by omega) (by omega)]; simp
    simp only [b1h hr,b1h hi,bS9,u1x,hwt,b1h hn]
    rw [show l97 a th (toI l) (t:Int) (kn s) (x:Int)=_ from g1,bS9,b2r hx (by simp only [maxLen]; omega)]
    have hno:¬ ∃ y,y<x/\∃ m',TD a th l (t,s) y=some m'/\b64 a th l want m':=fun q=>by have:=i1.2 q; cases this
    cases htd:TD a th l (t,s) x with
    | none =>
     rw [htd] at g2
     simp only at g2
     subst g2
     simp only [fT9,if_false,bS9]
     refine .inl ⟨false,rfl,⟨(fun h=>by cases h),?_⟩⟩
     rintro ⟨y,hy,m',q1,q2⟩
     by_cases e:y=x
     ·subst e; rw [htd] at q1; cases q1
     ·exact absurd ⟨y,by omega,m',q1,q2⟩ hno
    | some m' =>
     rw [htd] at g2
     simp only at g2
     obtain ⟨rfl,rfl⟩:=g2
     simp only [if_true]
     obtain ⟨j,j1,j2⟩:=x84 (l:=nrow) (by omega) (kn m'.2)
     rw [j1,bS9,bS9]
     obtain ⟨_,q2,q3⟩:=u5h hR hx htd
     have hin:kn m'.2∈nrow ↔ b64 a th l want m':=by
      rw [hmem]
      constructor
      ·rintro ⟨s',r1,r2,r3⟩
       rw [q3,s9n r3]; exact r2
      ·intro h
       exact ⟨m'.2,q2,by rw [<- q3]; exact h,rfl⟩
     refine .inl ⟨_,rfl,?_⟩
     rw [decide_eq_true_eq,j2,hin]
     constructor
     ·intro h; exact ⟨x,by omega,m',htd,h⟩
     ·rintro ⟨y,hy,m2,r1,r2⟩
      by_cases e:y=x
      ·subst e; rw [htd] at r1; cases r1; exact r2
      ·exact absurd ⟨y,by omega,m2,r1,r2⟩ hno) (fun b i1=>by
   refine ⟨b,?_,i1⟩
   unfold s90
   dsimp only
   rw [if_neg (by simp)]) 0 (Nat.zero_le _) (s:=false) (by simp)
 exact ⟨b,h1,h2⟩
theorem u6l {rows:List (List r10_knot)} {row nrow:List r10_knot} {t:Nat} (ht:t<tA a) (hr:rows[t]?=some row) (hrow:s8t a th l t row) (hn:rows[t+1]?=some nrow) (hnrow:L1j a th l want (t+1) nrow) :
  ∃ nx,b0w (s91 a th (toI l) ((nA a:Nat):Int) rows (t:Int)) ([],0)=some nx/\L1j a th l want t nx:=by
 have h6:=tA6 hs
 have hp4:=u00 (show t<=6 by omega)
 obtain ⟨hlen,hmem⟩:=hrow
 obtain ⟨b,h1,h2,h3⟩:=j7u (f:=s91 a th (toI l) ((nA a:Nat):Int) rows (t:Int)) row.length (fun s k=>(s,k))
  (fun i nx=>nx.length<=i/\∀ k,k∈nx ↔ ∃ j s,j<i/\row[j]?=some (kn s)/\b64 a th l want (t,s)/\k=kn s)
  (fun nx=>nx.length<=row.length/\∀ k,k∈nx ↔ ∃ j s,j<row.length/\row[j]?=some (kn s)/\b64 a th l want (t,s)/\k=kn s) (fun nx i hi ⟨i1,i2⟩=>by
   obtain ⟨k,hk⟩:=b3b hi
   obtain ⟨s,hs1,rfl⟩:=(hmem k).1 (b1d.2 ⟨i,hk⟩)
   obtain ⟨b,g1,g2⟩:=u7d hs hth hl hl8 ht hr hk hn hnrow hs1
   have hw:wr ((i:Int)+1)=(i:Int)+1:=b2r hi (by simp only [maxLen]; omega)
   unfold s91
   simp only [b1h hr,bS9,Int.ofNat_lt,hi,decide_true,if_true,g1]
   unfold u17 u08
   cases b with
   | true =>
    simp only [if_true,b1h hr,b1h hk,bS9,u1x]
    rw [b6x (by omega) (by simp) (by omega),bS9,hw]
    refine .inl ⟨_,rfl,by simp; omega,fun k'=>?_⟩
    rw [List.mem_append,List.mem_singleton,i2 k']
    constructor
    ·rintro (⟨j,s2,q1,q2⟩|rfl)
     ·exact ⟨j,s2,by omega,q2⟩
     ·exact ⟨i,s,by omega,hk,g2.1 rfl,rfl⟩
    ·rintro ⟨j,s2,q1,q2,q3,q4⟩
     by_cases e:j=i
     ·subst e; rw [hk] at q2; rw [q4]; exact .inr (Option.some.inj q2).symm
     ·exact .inl ⟨j,s2,by omega,q2,q3,q4⟩
   | false =>
    simp only [fT9,if_false]
    rw [hw]
    refine .inl ⟨_,rfl,by omega,fun k'=>?_⟩
    rw [i2 k']
    constructor
    ·rintro ⟨j,s2,q1,q2⟩; exact ⟨j,s2,by omega,q2⟩
    ·rintro ⟨j,s2,q1,q2,q3,q4⟩
     by_cases e:j=i
     ·subst e; rw [hk] at q2
      rw [<- s9n (Option.some.inj q2)] at q3
      have := g2.2 q3; cases this
     ·exact ⟨j,s2,by omega,q2,q3,q4⟩) (fun nx ⟨i1,i2⟩=>by
   refine ⟨nx,?_,i1,i2⟩
   unfold s91
   simp only [b1h hr,bS9,Int.lt_irrefl,decide_false,fT9,if_false]) 0 (Nat.zero_le _) (s:=[]) ⟨by simp,fun k=>by simp⟩
 refine ⟨b,h1,by omega,fun k=>?_⟩
 rw [h3 k]
 constructor
 ·rintro ⟨j,s,_,q2,q3,q4⟩
  obtain ⟨s2,r1,r2⟩:=(hmem _).1 (b1d.2 ⟨j,q2⟩)
  rw [<- s9n r2] at r1
  exact ⟨s,r1,q3,q4⟩
 ·rintro ⟨s,r1,r2,rfl⟩
  obtain ⟨j,hj⟩:=b1d.1 ((hmem _).2 ⟨s,r1,rfl⟩)
  exact ⟨j,s,b1k hj,hj,r2,rfl⟩
theorem u5a:∃ (W:Nat) (rows:List (List r10_knot)),u0c (al a) (c49 l) a.Records.length W/\s9u a th (toI l)=some rows/\rows.length=tA a+1/\∀ t,t<=tA a->∃ row,rows[t]?=some row/\L1j a th l W t row:=by
 have h6:=tA6 hs
 have hT:=s9b hs.ok
 obtain ⟨rows,f1,f2,f3⟩:=u7l hs hth hl hl8
 obtain ⟨W,w1,w2,w3⟩:=v01 hl hs.ok hl8
 obtain ⟨rowT,r1,r2⟩:=f3 (tA a) (Nat.le_refl _)
 obtain ⟨last,l1,l2⟩:=u8q (want:=W) hs r1 r2
 have hset:(rows.set (tA a) last)[tA a]?=some last:=by rw [List.getElem?_set_self (by omega)]
 obtain ⟨b,h1,h2⟩:=j7u (f:=u06 a th (toI l) ((nA a:Nat):Int)) (tA a) (fun (s:List (List r10_knot)) (k:Int)=>(s,(tA a:Int) - 1 - k))
  (fun k rows=>rows.length=tA a+1/\(∀ u,u+k<tA a->∃ row,rows[u]?=some row/\s8t a th l u row)/\∀ u,u<=tA a->tA a<=u+k->∃ row,rows[u]?=some row/\L1j a th l W u row)
  (fun rows=>rows.length=tA a+1/\∀ u,u<=tA a->∃ row,rows[u]?=some row/\L1j a th l W u row) (fun rows k hk ⟨i1,i2,i3⟩=>by
   obtain ⟨t,ht⟩:∃ t,t+k+1=tA a:=⟨tA a - 1 - k,by omega⟩
   have et:(tA a:Int) - 1 - (k:Int)=(t:Int):=by omega
   obtain ⟨row,hr,hrow⟩:=i2 t (by omega)
   obtain ⟨nrow,hn,hnrow⟩:=i3 (t+1) (by omega) (by omega)
   obtain ⟨nx,g1,g2⟩:=u6l hs hth hl hl8 (by omega) hr hrow hn hnrow
   have h0:(0:Int)<=(t:Int):=by omega
   rw [et]
   unfold u06
   simp only [h0,decide_true,if_true,g1,bS9]
   unfold u16 u15
   rw [b1h hr,bS9,Int.toNat_natCast,b3t (by omega) (by omega)]
   refine .inl ⟨rows.set t nx,by congr 2; congr 1; omega,by rw [List.length_set]; exact i1,fun u hu=>?_,fun u hu hu2=>?_⟩
   ·obtain ⟨r,q1,q2⟩:=i2 u (by omega)
    exact ⟨r,by rw [List.getElem?_set_ne (by omega)]; exact q1,q2⟩
   ·by_cases e:u=t
    ·subst e
     exact ⟨nx,by rw [List.getElem?_set_self (by omega)],g2⟩
    ·obtain ⟨r,q1,q2⟩:=i3 u hu (by omega)
     exact ⟨r,by rw [List.getElem?_set_ne (fun q=>e q.symm)]; exact q1,q2⟩) (fun rows ⟨i1,i2,i3⟩=>by
   refine ⟨rows,?_,i1,fun u hu=>i3 u hu (by omega)⟩
   have e1:¬ (0:Int)<=(tA a:Int) - 1 - ((tA a:Nat):Int):=by omega
   unfold u06
   simp only [e1,decide_false,fT9,if_false]) 0 (Nat.zero_le _) (s:=rows.set (tA a) last) ⟨by rw [List.length_set]; exact f2,fun u hu=>by
    obtain ⟨r,q1,q2⟩:=f3 u (by omega)
    exact ⟨r,by rw [List.getElem?_set_ne (by omega)]; exact q1,q2⟩,fun u hu hu2=>by
    have : u=tA a:=by omega
    subst this
    exact ⟨last,hset,l2⟩⟩
 obtain ⟨g1,g2⟩:=h2
 refine ⟨W,b,w3,?_,g1,g2⟩
 unfold s9u
 rw [u5e hs.ok,bS9,f1,bS9]
 unfold u18
 rw [w1,bS9]
 unfold u19
 rw [l1,bS9]
 unfold u2a
 rw [<- hT,b1h r1,bS9,Int.toNat_natCast,b3t (by omega) (by omega)]
 rw [show ((rows.set (tA a) last,(tA a:Int) - 1):List (List r10_knot) × Int)=(rows.set (tA a) last,(tA a:Int) - 1 - ((0:Nat):Int)) by simp,h1]
 rfl
theorem u89:∃ b,z12 a th (toI l)=some b/\(b=true ↔ ∃ w,l27 (fr a) (to a) (al a) (c49 l) (hold a) (stA a th) (okA a ftT) (nA a) (tA a) a.Records.length zero w):=by
 obtain ⟨W,rows,h1,h2,h3,h4⟩:=u5a hs hth hl hl8
 obtain ⟨row,r1,_,r2⟩:=h4 0 (Nat.zero_le _)
 unfold z12
 have hg:get rows 0=some row:=b1h (k:=0) r1
 rw [h2,bS9,hg,bS9]
 refine ⟨_,rfl,?_⟩
 rw [decide_eq_true_eq]
 constructor
 ·intro h
  cases row with
  | nil=>simp at h
  | cons k ks =>
   obtain ⟨s,q1,⟨w,q2⟩,q3⟩:=(r2 k).1 (List.mem_cons_self ..)
   have : s=(zero,0):=q1
   subst this
   exact ⟨w,(u3b h1).1 q2⟩
 ·rintro ⟨w,hw⟩
  have : kn (zero,0)∈row:=(r2 _).2 ⟨(zero,0),rfl,⟨w,(u3b h1).2 hw⟩,rfl⟩
  have := List.length_pos_of_mem this
  omega
end
end
end Go.Nw.UM
namespace Go.Nw
section
variable {π:Type} {From To:Nat->Nat} {Al keep keep':Nat->Bool} {hold:Nat->π->Nat->Bool} {st:Nat->π->Nat->π} {ok ok':Nat->π->Nat->Bool} {N T n:Nat}
theorem u3c {p0:π} (hk:∀ i,i<n->keep i=keep' i) {xs:List Nat}:l27 From To Al keep hold st ok N T n p0 xs ↔ l27 From To Al keep' hold st ok N T n p0 xs:=by
 unfold l27
 refine and_congr_right fun _=>and_congr_right fun _=>⟨fun h i hi hk'=>h i hi (by rw [hk i hi]; exact hk'),fun h i hi hk'=>h i hi (by rw [<- hk i hi]; exact hk')⟩
theorem u8u {P Q:List Nat->Prop} (h:∀ w,P w ↔ Q w) {w:List Nat} (hw:Lst P w):Lst Q w:=⟨(h w).1 hw.1,fun l hl=>hw.2 l ((h l).2 hl)⟩
end
end Go.Nw
namespace Go.Nw.UM
noncomputable section
abbrev K50 (a:Accident) (th:Theory) (keep:Nat->Bool) (ft:Nat->Place->Nat->Bool):List Nat->Prop:=l27 (fr a) (to a) (al a) keep (hold a) (stA a th) (okA a ft) (nA a) (tA a) a.Records.length zero
theorem u35 {a:Accident} (hn:a.Records.length<=10):s8s a=some (toI (List.range a.Records.length)):=by
 unfold s8s u2d
 rw [b4h (f:=u1b a) a.Records.length (fun s k=>(s,k)) (fun k=>toI (List.range k)) (toI (List.range a.Records.length)) (s0:=[]) rfl (fun k hk=>by
   unfold u1b
   simp only [Int.ofNat_lt,hk,decide_true,if_true]
   rw [b6d (by rw [L1q,List.length_range]; omega) (by simp) (by omega),bS9,b2r hk (D5s hn)]
   congr 3
   unfold toI; rw [List.range_succ,List.map_append]; rfl) (by
   unfold u1b
   simp only [Int.lt_irrefl,decide_false,fT9,if_false])]
 rfl
theorem u3w {n i:Nat} (hi:i<n):c49 (List.range n) i=true:=by unfold c49; simp [hi]
section
variable {a:Accident} {th:Theory} {want:Nat}
theorem u8t {l:List Nat} {m m':Nat × Place × Nat} {x:Nat} {w:List Nat} (hm:m.1<tA a) (hx:x<nA a) (ht:TD a th l m x=some m') (hw:Lst (fun w=>AcD a th l want w m') w)
  (hb : ∀ y,y<x->∀ m2,TD a th l m y=some m2->¬ b64 a th l want m2):Lst (fun w=>AcD a th l want w m) (x :: w):=by
 refine ⟨(u1t hm).2 ⟨hx,m',ht,hw.1⟩,fun l2 hl2=>?_⟩
 cases l2 with
 | nil=>unfold AcD at hl2; rw [Acc] at hl2; unfold c40 at hl2; simp at hl2; omega
 | cons y ys =>
  obtain ⟨_,m2,h1,h2⟩:=(u1t hm).1 hl2
  rcases Nat.lt_trichotomy x y with h|h|h
  ·exact .inl h
  ·subst h; rw [ht] at h1; cases h1; exact .inr ⟨rfl,hw.2 ys h2⟩
  ·exact absurd ⟨ys,h2⟩ (hb y h m2 h1)
variable (hs:Small a) (hth:OkT a th)
include hs hth
theorem u7e {rows:List (List r10_knot)} {nrow:List r10_knot} {t:Nat} {s:Place × Nat} (ht:t<tA a) (hn:rows[t+1]?=some nrow) (hnrow:L1j a th (List.range a.Records.length) want (t+1) nrow) (hR:Rch a th (List.range a.Records.length) t s) (hL:b64 a th (List.range a.Records.length) want (t,s)) {out:List Int} (ho:out.length<=t) :
  ∃ (x:Nat) (s':Place × Nat),b0w (u04 a th rows out s.1.State s.1.Values.1 s.1.Values.2 (s.2:Int) (t:Int)) 0=some (out++[(x:Int)],s'.1.State,s'.1.Values.1,s'.1.Values.2,((s'.2:Nat):Int))/\x<nA a/\TD a th (List.range a.Records.length) (t,s) x=some (t+1,s')/\b64 a th (List.range a.Records.length) want (t+1,s') /\
   ∀ y,y<x->∀ m2,TD a th (List.range a.Records.length) (t,s) y=some m2->¬ b64 a th (List.range a.Records.length) want m2:=by
 have h4:=nA4 hs
 have h6:=tA6 hs
 have hn8:=hs.ok.n
 have hp4:=u00 (show t+1<=6 by omega)
 obtain ⟨hlen,hmem⟩:=hnrow
 obtain ⟨hp,hD⟩:=u2f hs.ok hR
 obtain ⟨b,h1,h2⟩:=j7u (f:=u04 a th rows out s.1.State s.1.Values.1 s.1.Values.2 (s.2:Int) (t:Int)) (nA a) (fun (_:Unit) k=>k)
  (fun x _=>∀ y,y<x->∀ m2,TD a th (List.range a.Records.length) (t,s) y=some m2->¬ b64 a th (List.range a.Records.length) want m2)
  (fun b=>∃ (x:Nat) (s':Place × Nat),b=(out++[(x:Int)],s'.1.State,s'.1.Values.1,s'.1.Values.2,((s'.2:Nat):Int))/\x<nA a/\TD a th (List.range a.Records.length) (t,s) x=some (t+1,s')/\b64 a th (List.range a.Records.length) want (t+1,s') /\
   ∀ y,y<x->∀ m2,TD a th (List.range a.Records.length) (t,s) y=some m2->¬ b64 a th (List.range a.Records.length) want m2) (fun _ x hx i1=>by
   have hxx:((x:Int)<((nA a:Nat):Int)):=by omega
   obtain ⟨k,b,g1,g2⟩:=u4d (l:=List.range a.Records.length) (m:=(t,s)) hs.ok hth (fun i hi=>List.mem_range.1 hi) (by rw [List.length_range]; exact hn8) hp hD hx
   have hwt:wr ((t:Int)+1)=((t+1:Nat):Int):=by rw [b3t (by omega) (by omega)]; simp
   have hw:wr ((x:Int)+1)=(x:Int)+1:=b2r hx (by simp only [maxLen]; omega)
   have skip:(∀ m2,TD a th (List.range a.Records.length) (t,s) x=some m2->¬ b64 a th (List.range a.Records.length) want m2)->∀ y,y<x+1->∀ m2,TD a th (List.range a.Records.length) (t,s) y=some m2->¬ b64 a th (List.range a.Records.length) want m2:=fun h y hy m2=>by
    by_cases e:y=x
    ·subst e; exact h m2
    ·exact i1 y (by omega) m2
   unfold u04
   rw [u5e hs.ok]
   simp only [bS9,hxx,decide_true,if_true,u35 (show a.Records.length<=10 by omega),hwt,b1h hn]
   rw [show l97 a th (toI (List.range a.Records.length)) (t:Int) (r10_knot.mk (Place.mk s.1.State (s.1.Values.1,s.1.Values.2)) (s.2:Int)) (x:Int)=_ from g1,bS9]
   cases htd:TD a th (List.range a.Records.length) (t,s) x with
   | none =>
    rw [htd] at g2
    simp only at g2
    subst g2
    rw [if_neg (by simp),bS9,if_neg (by simp),hw]
    exact .inl ⟨(),rfl,skip fun m2 h=>by rw [htd] at h; cases h⟩
   | some m' =>
    rw [htd] at g2
    simp only at g2
    obtain ⟨rfl,rfl⟩:=g2
    simp only [if_true]
    obtain ⟨j,j1,j2⟩:=x84 (l:=nrow) (by omega) (kn m'.2)
    obtain ⟨_,q2,q3⟩:=u5h hR hx htd
    rw [show s8y nrow (r10_knot.mk (Place.mk (kn m'.2).place.State ((kn m'.2).place.Values.1,(kn m'.2).place.Values.2)) (kn m'.2).done)=_ from j1,bS9,bS9]
    have hin:kn m'.2∈nrow ↔ b64 a th (List.range a.Records.length) want m':=by
     rw [hmem]
     constructor
     ·rintro ⟨s',r1,r2,r3⟩
      rw [q3,s9n r3]; exact r2
     ·intro h
      exact ⟨m'.2,q2,by rw [<- q3]; exact h,rfl⟩
    by_cases c:b64 a th (List.range a.Records.length) want m'
    ·rw [if_pos (by rw [decide_eq_true_eq,j2,hin]; exact c),b6d (by omega) (by simp) (by omega),bS9]
     exact .inr ⟨_,rfl,x,m'.2,rfl,hx,htd.trans (congrArg some q3),by rw [<- q3]; exact c,i1⟩
    ·rw [if_neg (by rw [decide_eq_true_eq,j2,hin]; exact c),hw]
     exact .inl ⟨(),rfl,skip fun m2 h=>by rw [htd] at h; cases h; exact c⟩) (fun _ i1=>by
   obtain ⟨x,q1,m',q2,q3⟩:=(u5b (m:=(t,s)) ht).1 hL
   exact absurd q3 (i1 x q1 m' q2)) 0 (Nat.zero_le _) (s:=()) (fun y hy=>by omega)
 obtain ⟨x,s',rfl,h3⟩:=h2
 exact ⟨x,s',h1,h3⟩
theorem u43 {rows:List (List r10_knot)} (hrows:∀ t,t<=tA a->∃ row,rows[t]?=some row/\L1j a th (List.range a.Records.length) want t row) :
  ∀ (d t:Nat) (s:Place × Nat) (out:List Int),t+d=tA a->Rch a th (List.range a.Records.length) t s->b64 a th (List.range a.Records.length) want (t,s)->out.length=t ->
   ∃ w,Lst (fun w=>AcD a th (List.range a.Records.length) want w (t,s)) w/\b0w (s85 a th rows) (out,s.1.State,s.1.Values.1,s.1.Values.2,((s.2:Nat):Int),(t:Int))=some (out++toI w)
 | 0,t,s,out,ht,hR,hL,ho=>by
  have hT:=s9b hs.ok
  have e:t=tA a:=by omega
  subst e
  obtain ⟨w,hw⟩:=hL
  have := ((u2y (m:=(tA a,s)) rfl).1 hw).1
  subst this
  refine ⟨[],⟨hw,fun _ _=>trivial⟩,b3d ?_⟩
  unfold s85
  rw [<- hT]
  simp only [Int.lt_irrefl,decide_false,fT9,if_false,toI,List.map_nil,List.append_nil]
 | d+1,t,s,out,ht,hR,hL,ho=>by
  have hT:=s9b hs.ok
  have h6:=tA6 hs
  obtain ⟨nrow,hn,hnrow⟩:=hrows (t+1) (by omega)
  obtain ⟨x,s',g1,g2,g3,g4,g5⟩:=u7e hs hth (by omega) hn hnrow hR hL (out:=out) (by omega)
  obtain ⟨w,w1,w2⟩:=u43 hrows d (t+1) s' (out++[(x:Int)]) (by omega) ⟨s,hR,x,g2,g3⟩ g4 (by simp; omega)
  refine ⟨x :: w,u8t (by show t<tA a; omega) g2 g3 w1 g5,?_⟩
  have hlt:(t:Int)<a.Ticks:=by omega
  have hstep:s85 a th rows (out,s.1.State,s.1.Values.1,s.1.Values.2,((s.2:Nat):Int),(t:Int))=some (.nx (out++[(x:Int)],s'.1.State,s'.1.Values.1,s'.1.Values.2,((s'.2:Nat):Int),((t+1:Nat):Int))):=by
   unfold s85
   simp only [hlt,decide_true,if_true,g1,bS9]
   unfold u12
   rw [b3t (by omega) (by omega)]; simp
  rw [w91 hstep,w2]
  simp [toI]
theorem u6g (hf:∀ n∈b3g a.Machine,n.size<=maxLen):(∃ w,Lst (K50 a th (fun _=>true) ftT) w/\(toI w).length=tA a/\s8x a th=some (toI w,0))\/((∀ w,¬ K50 a th (fun _=>true) ftT w)/\s8x a th=some ([],3)):=by
 have hn8:=hs.ok.n
 have hcong:∀ w,K50 a th (c49 (List.range a.Records.length)) ftT w ↔ K50 a th (fun _=>true) ftT w:=fun w=>u3c fun i hi=>u3w hi
 obtain ⟨W,rows,h1,h2,h3,h4⟩:=u5a (l:=List.range a.Records.length) hs hth (fun i hi=>List.mem_range.1 hi) (by rw [List.length_range]; exact hn8)
 obtain ⟨row,r1,_,r2⟩:=h4 0 (Nat.zero_le _)
 have hg:get rows 0=some row:=b1h (k:=0) r1
 unfold s8x
 have hck:y9g a th=some 0:=by rw [u24 hf (by omega),u27.2 ⟨hs.ok,hth⟩]
 rw [hck,bS9,if_neg (by simp),u35 (by omega),bS9,h2,bS9,hg,bS9]
 have hiff:∀ w,AcD a th (List.range a.Records.length) W w (0,zero,0) ↔ K50 a th (fun _=>true) ftT w:=fun w=>(u3b h1).trans (hcong w)
 by_cases hL:b64 a th (List.range a.Records.length) W (0,(zero,0))
 ·have hin:kn (zero,0)∈row:=(r2 _).2 ⟨(zero,0),rfl,hL,rfl⟩
  have hpos:=List.length_pos_of_mem hin
  rw [if_neg (by simp; intro h; rw [h] at hpos; simp at hpos)]
  obtain ⟨w,w1,w2⟩:=u43 hs hth h4 (tA a) 0 (zero,0) [] (by omega) rfl hL rfl
  have w2':b0w (s85 a th rows) ([],0,0,0,0,0)=some (toI w):=w2
  rw [w2',bS9]
  refine .inl ⟨w,u8u hiff w1,?_,rfl⟩
  rw [L1q]; exact ((hiff w).1 w1.1).1
 ·have he:row=[]:=by
   cases row with
   | nil=>rfl
   | cons k ks =>
    obtain ⟨s,q1,q2,q3⟩:=(r2 k).1 (List.mem_cons_self ..)
    have : s=(zero,0):=q1
    subst this
    exact absurd q2 hL
  rw [if_pos (by simp [he])]
  exact .inr ⟨fun w hw=>hL ⟨w,(hiff w).2 hw⟩,rfl⟩
end
end
end Go.Nw.UM
