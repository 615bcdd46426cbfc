/- Plain laws on the models. -/
import Derived.Test.YtccjacnppmciaaaGreatDoorP1
import Derived.Test.YtccjacnppmciaaaGreatDoorR1
import Derived.Test.YtccjacnppmciaaaGreatDoorP4
set_option linter.all false
namespace Go.Nw
open Go.Proofs
variable [Cfg]
def K63 (x:Int × Int × Int):Scal Tryz.prog:=⟨.agg [.v (.int .i64 x.1),.v (.int .i64 x.2.1),.v (.int .i64 x.2.2)],.agg #[.int .i64 x.1,.int .i64 x.2.1,.int .i64 x.2.2],fun w S h loc=>by
 refine .agg _ _ rfl (fun i hi=>?_) (fun i c hc=>?_)
 ·match i,hi with
  | 0,_=>rfl
  | 1,_=>rfl
  | 2,_=>rfl
  | k+3,hi=>simp at hi; omega
 ·match i,hc with
  | 0,hc=>cases hc; exact .v _
  | 1,hc=>cases hc; exact .v _
  | 2,hc=>cases hc; exact .v _
  | k+3,hc=>simp at hc⟩
theorem K8r {id:FuncId} {fn:Func} (hf:Tryz.prog.funcs[id]?=some fn) (hn:fn.name = "newel/faults.theories$1"):id=70:=by
 have hu:(Tryz.prog.funcs.toList.zipIdx.all fun p=>p.1.name != "newel/faults.theories$1" || p.2 == 70)=true:=by kernel_rfl
 have h1:(fn,id)∈Tryz.prog.funcs.toList.zipIdx:=by
  rw [List.mem_zipIdx_iff_getElem?]
  simpa using hf
 have h2:=List.all_eq_true.1 hu _ h1
 simp only [Bool.or_eq_true,bne_iff_ne,ne_eq,beq_iff_eq] at h2
 rcases h2 with h2|h2
 ·exact absurd hn h2
 ·exact h2
theorem K80 (V:Int × Int × Int->Prop) (cells:List AV) (sz I T:Nat) (es:List (List AV)) (h0:cells[0]?=some (.fs sz es)) (hI:es.length=I) (h6:cells[6]?=some (.v (.int .i64 T))) (hI1:I<1000) (hT1:T<1000)
  (hV0 : V (-1,0,0)) (hV:∀ i v t:Nat,i<I->v<2->t<T->V ((i:Int),(v:Int),(t:Int))) (xs:List { x // V x }) (hxs:xs.map (·.1)=c63 T I) :
  K6d Tryz.prog (fun x:{ x // V x }=>K63 x.1) "newel/faults.theories$1" [.fp cells 0] xs:=by
 intro id fn hfn hname w S us hSlt hLd hsz hv
 have hid:id=70:=K8r hfn hname
 subst hid
 have hb:=hv 0 _ rfl
 have hus:us=#[us.getD 0 undef]:=by
  apply Array.ext
  ·simpa using hsz
  ·intro i h1 h2
   have : i=0:=by simp at h2; omega
   subst this
   simp [Array.getD,h1]
 generalize us.getD 0 undef=u0 at hb hus
 subst hus
 cases hb with
 | fp _ _ b o hS val hc h1 hv' =>
 have c0:=hc 0 _ h0
 have c6:=hc 6 _ h6
 have v0:=hv' 0 _ h0
 have v6:=hv' 6 _ h6
 have e6:val 6 = .int .i64 T:=by generalize val 6=q at v6; cases v6; rfl
 rw [e6] at c6
 obtain ⟨a0,cap,e0⟩:∃ a0 cap,val 0 = .slice a0 I cap:=by
  generalize val 0=q at v0
  subst hI
  cases v0 with
  | fsNil sz=>exact ⟨none,0,rfl⟩
  | fsE sz a cap=>exact ⟨some a,cap,rfl⟩
  | fs sz es b o cap=>exact ⟨_,cap,rfl⟩
 rw [e0] at c0
 intro l J Jx W hbel hJ hJx hY hst
 have hsame:∀ k,S k->W.heap[k]?=w.heap[k]?:=fun k hk=>hbel.block k (hSlt k hk)
 have hlen:xs.length=1+I * (2 * T):=by
  have := congrArg List.length hxs
  rw [List.length_map,K6m] at this
  exact this
 have key:=K83 Fence.wide 2 trivial rfl (by omega) l b o I T cap a0 hI1 hT1 S hS (fun pre W=>∃ pre':List { x // V x },pre=pre'.map (·.1)/\J pre' W) (fun pre W=>∃ pre':List { x // V x },Jx pre' W) V hV0 hV (fun pre x W1 hx hj hl=>?_) W ?_ ?_ ⟨[],rfl,hst⟩
 ·refine key.mono ?_
  rintro e W' ⟨h1,⟨ys,rfl,pre',hp,hj⟩|⟨_,_,pre',hj⟩⟩
  ·refine ⟨h1,.inl ⟨pre',?_,hj⟩⟩
   have hinj:∀ a b:List { x // V x },a.map (·.1)=b.map (·.1)->a=b:=by
    intro a
    induction a with
    | nil=>intro b h; cases b with
     | nil=>rfl
     | cons y b=>simp at h
    | cons x a ih=>intro b h; cases b with
     | nil=>simp at h
     | cons y b =>
      simp only [List.map_cons,List.cons.injEq] at h
      rw [Subtype.ext h.1,ih b h.2]
   exact hinj _ _ (hp.symm.trans hxs.symm)
  ·exact ⟨h1,.inr ⟨pre',trivial,hj⟩⟩
 ·obtain ⟨pre',rfl,hj⟩:=hj
  obtain ⟨fn,tmps,assign,body,hy,hR⟩:=hY pre' ⟨x,hx⟩ W1 hj (by rw [hlen]; simpa using hl)
  refine ⟨fn,tmps,assign,body,hy,hR.mono ?_⟩
  rintro e W' (⟨rfl,g1,g2⟩|⟨rfl,g1⟩)
  ·exact .inl ⟨rfl,⟨pre'++[⟨x,hx⟩],by simp,g1⟩,g2⟩
  ·exact .inr ⟨rfl,⟨_,g1⟩⟩
 ·rw [K6f (hsame b hS)]; exact c0
 ·rw [K6f (hsame b hS)]; exact c6
end Go.Nw
namespace Go.Nw.AM
open Go.Proofs Go.Nw.Acc
set_option maxHeartbeats 4000000
set_option maxRecDepth 100000
namespace Th
@[go_sem] def y0:List XO:=[
 ⟨(some 1),none,.boxF (.t 0)⟩,
 ⟨(some 2),none,.mv (.c (.slice none 0 0))⟩,
 ⟨(some 3),none,.mv (.c (.int .i64 0))⟩]
@[go_sem] def y1:List XO:=[
 ⟨(some 9),none,.load true 8 (.tf 1)⟩,
 ⟨(some 10),none,.call "newel/faults.accident" [(.t 9)]⟩,
 ⟨(some 4),none,.mv (.t 10)⟩]
@[go_sem] def y2:List XO:=[
 ⟨(some 11),none,.mv (.t 4)⟩,
 ⟨(some 12),none,.bin .neq .no (.t 11) (.c (.int .i64 0))⟩]
@[go_sem] def y3:List XO:=[
 ⟨(some 13),none,.mv (.t 4)⟩,
 ⟨(some 2),none,.mv (.c (.slice none 0 0))⟩,
 ⟨(some 3),none,.mv (.t 13)⟩]
@[go_sem] def y4:List XO:=[
 ⟨(some 5),none,.alloc [(.slice none 0 0)]⟩]
@[go_sem] def y5:List XO:=[
 ⟨(some 14),none,.load true 8 (.tf 1)⟩,
 ⟨(some 15),none,.call "newel/faults.theories" [(.t 14)]⟩]
@[go_sem] def y6:List XO:=[
 ⟨(some 6),none,.alloc [(.int .i64 0),(.int .i64 0),(.int .i64 0)]⟩,
 ⟨none,none,.store 3 (.t 6) (.t 16)⟩]
@[go_sem] def y7:List XO:=[
 ⟨(some 18),none,.load true 8 (.tf 1)⟩,
 ⟨(some 19),none,.load true 3 (.t 6)⟩,
 ⟨(some 20),none,.call "newel/faults.search" [(.t 18),(.t 19),(.c (.slice none 0 0))]⟩,
 ⟨(some 17),none,.mv (.t 20)⟩,
 ⟨(some 21),none,.ext (.t 17) 0⟩,
 ⟨(some 22),none,.ext (.t 17) 1⟩,
 ⟨(some 7),none,.mv (.t 21)⟩,
 ⟨(some 8),none,.mv (.t 22)⟩]
@[go_sem] def y8:List XO:=[
 ⟨(some 23),none,.mv (.t 8)⟩]
@[go_sem] def y9:List XO:=[
 ⟨(some 24),none,.load false 1 (.t 5)⟩,
 ⟨(some 25),none,.load true 3 (.t 6)⟩,
 ⟨(some 26),none,.bsl 3 [(.t 25)]⟩,
 ⟨(some 27),none,.app 3 24 (.t 24) (.t 26)⟩,
 ⟨none,none,.store 1 (.t 5) (.t 27)⟩]
@[go_sem] def y10:List XO:=[
 ⟨(some 28),none,.load false 1 (.t 5)⟩,
 ⟨(some 2),none,.mv (.t 28)⟩,
 ⟨(some 3),none,.mv (.c (.int .i64 0))⟩]
def y:YCode :=
 (.seq (.leaf (.reg y0)) (.seq (.leaf (.seq (.reg y1) (.seq (.reg y2) (.cond (.t 12) (.seq (.reg y3) .ret) .skip)))) (.seq (.leaf (.reg y4)) (.seq (.seq (.leaf (.reg y5)) (.block 0 (.range (.t 15) 16 (.reg y6) (.block 1 (.seq (.reg y7) (.seq (.reg y8) (.cond (.t 23) (.reg y9) .skip))))))) (.leaf (.seq (.reg y10) .ret))))))
abbrev O:Orac:=b0n Tryz.prog
def toT (x:Int × Int × Int):Theory:=⟨x.1,x.2.1,x.2.2⟩
theorem K68 (n T:Nat):(c63 T n).map toT=l10 n T:=by
 simp [c63,K27,K45,l10,toT,List.map_flatMap,Function.comp_def]
theorem K7s (a:Accident):∀ (l:List Theory) {t:Theory} {r:List Theory} {s:List Int × Bool},J34 a l=some r->u0k a t=some s->J34 a (l++[t])=some (r++if s.2 then [t] else [])
 | [],t,r,s,h,hs=>by
  cases h
  simp only [List.nil_append,J34,hs,bS9]
 | x :: l,t,r,s,h,hs=>by
  simp only [J34,List.cons_append] at h ⊢
  obtain ⟨q,hq,h⟩:=b0g h
  obtain ⟨m,hm,h⟩:=b0g h
  rw [hq,bS9,K7s a l hm hs,bS9]
  rw [<- Option.some.inj h]
  by_cases hb:q.2 <;> simp [hb]
theorem K7r (a:Accident):∀ {l:List Theory} {r:List Theory},J34 a l=some r->∀ t∈l,∃ s,u0k a t=some s
 | [],_,_,t,ht=>by simp at ht
 | x :: l,r,h,t,ht=>by
  simp only [J34] at h
  obtain ⟨q,hq,h⟩:=b0g h
  obtain ⟨m,hm,h⟩:=b0g h
  rcases List.mem_cons.1 ht with rfl|ht
  ·exact ⟨q,hq⟩
  ·exact K7r a hm t ht
theorem K7l {α:Type} (V:α->Prop):∀ l:List α,(∀ x∈l,V x)->∃ xs:List { x // V x },xs.map (·.1)=l
 | [],_=>⟨[],rfl⟩
 | x :: l,h=>by
  obtain ⟨xs,e⟩:=K7l V l fun y hy=>h y (List.mem_cons_of_mem _ hy)
  exact ⟨⟨x,h x List.mem_cons_self⟩ :: xs,by simp [e]⟩
theorem K7q (a:Accident):∀ {l:List Theory} {r:List Theory},J34 a l=some r->r.length<=l.length
 | [],_,h=>by cases h; simp
 | x :: l,r,h=>by
  simp only [J34] at h
  obtain ⟨q,hq,h⟩:=b0g h
  obtain ⟨m,hm,h⟩:=b0g h
  have := K7q a hm
  rw [<- Option.some.inj h]
  split <;> simp <;> omega
theorem K5u {h:Heap} {n:Nat} {rows:List (List AV)} (hm:b67 h) (hn:n≠0):b67 (h.new (n,rows)):=by
 intro id es he
 simp only [Heap.new] at he
 split at he
 ·cases he; exact hn rfl
 ·exact hm id es he
theorem K6g {h:Heap} {i n:Nat} {rows:List (List AV)} (hm:b67 h) (hn:n≠0):b67 (h.upd i (some (n,rows))):=by
 intro id es he
 simp only [Heap.upd] at he
 split at he
 ·cases he; exact hn rfl
 ·exact hm id es he
theorem K8t {h:Heap} {i:Nat} (hm:b67 h):b67 (h.upd i none):=by
 intro id es he
 simp only [Heap.upd] at he
 split at he
 ·cases he
 ·exact hm id es he
theorem K8s {h:Heap} {v:AV} {n:Nat} {rows:List (List AV)} (hm:b67 h) (hn:n≠0):b67 (b5y h v (n,rows)):=by
 unfold b5y
 split
 ·exact K5u (K8t hm) hn
 ·exact K5u hm hn
theorem K7h:b67 Heap.empty:=fun _ _ h=>by cases h
structure J (a:Accident) (b:Nat) (pre:List Theory) (h:Heap):Prop where
 nm : b67 h
 bl : b<h.nx
 ex : ∃ v l,h.ob b=some (1,[[v]])/\b2a h v 3 (List.map u26 l)/\b07 v b/\J34 a pre=some l
theorem K7d {O:Orac} {c:X} {p q:XCode} {Q:XExit->Slots->Heap->Prop} {t:Slots} {h:Heap} {x:Bool} (hc:evT t c=B x) (h1:x=true->cw O p Q t h) (h2:x=false->cw O q Q t h):cw O (.cond c p q) Q t h:=by
 rw [g9i,hc]
 exact ⟨x,rfl,h1,h2⟩
theorem K8g {P:Program} {O:Orac} {c:YCode} {Q:XExit->Slots->Heap->Prop} {t:Slots} {h:Heap} (p:Slots->Heap->Prop) (hp:p t h) (hw:∀ t h,p t h->cwY P O c Q t h):cwY P O c Q t h:=hw t h hp
variable {a:Accident}
theorem frA (a:Accident):∀ c∈aA a,Frz c:=(b0a (b0c fun a _=>b0z a) (b0a (b0c fun a _=>b0z a) (b0a (b0c fun a _=>b1q a) (b0a (b0c fun a _=>b1s a) (b0a (b0c fun a _=>b1r a) (b0a (b0c fun a _=>b2j a) (b0a (b0e _) (b0a (b0c fun a _=>c17 a) b0j))))))))
theorem K8q (hf:Has O "newel/faults.theories" x_faults_theories) (a:Accident):Fn O "newel/faults.theories" [.agg (aA a)] (.fn "newel/faults.theories$1" [] [.fp (aA a) 0]):=by
 refine b1i hf rfl (b0a (.agg _ (frA a)) b0j) (.fn _ _ _ b0j (b0a (.fp _ _ (frA a)) b0j)) ?_
 refine b1c (fun t h=>t 0 = .agg (aA a)) rfl fun t h s0=>?_
 simp only [x_faults_theories]
 refine b0b fun K hK=>?_
 simp only [go_sem,s0]
 refine hK _ _ ?_
 clear hK K
 refine b0b fun K hK=>?_
 simp only [go_sem]
 refine hK _ _ ?_
 clear hK K
 simp only [b0x,b1p,b0y]
 exact b8e (v:=.fn "newel/faults.theories$1" [] [.fp (aA a) 0]) (by simp only [go_sem]) (.refl _ (.fn _ _ _ b0j (b0a (.fp _ _ (frA a)) b0j)))
theorem V0 (n T:Nat):((-1:Int),(0:Int),(0:Int))∈c63 T n:=by simp [c63]
theorem V1 {n T i v t:Nat} (hi:i<n) (hv:v<2) (ht:t<T):((i:Int),(v:Int),(t:Int))∈c63 T n:=by
 simp only [c63,K27,K45,List.mem_cons,List.mem_flatMap,List.mem_map,List.mem_range]
 exact .inr ⟨i,hi,v,hv,t,ht,rfl⟩
theorem K8o (k1:u2l O) (k2:s97 O) (k3:∀ a:Accident,Fn O "newel/faults.theories" [.agg (aA a)] (.fn "newel/faults.theories$1" [] [.fp (aA a) 0])):K6c O:=by
 intro a r hm0
 unfold K5r at hm0
 refine K8i 11 [1] [] Tryz.func11 (by kernel_rfl) (c:=_) rfl (y:=y) (by kernel_rfl) (res:=[.t 2,.t 3]) (by kernel_rfl) rfl (b0a (.agg _ (frA a)) b0j) (.tup _ (b0a (b0c fun a _=>x5h a) (b0a (b0e _) b0j))) ?_
 obtain ⟨e,he,hm0⟩:=b0g hm0
 generalize hQ:(fun (e:XExit) (t:Slots) (h:Heap)=>match e with | .exit _=>False|_=>b4b [.t 2,.t 3] (.tup [.fs 3 (List.map u26 r.1),I r.2]) [] ⟨t,h⟩/\b67 h)=Q
 have Qret:∀ t h,b4b [.t 2,.t 3] (.tup [.fs 3 (List.map u26 r.1),I r.2]) [] ⟨t,h⟩->b67 h->Q .ret t h:=fun t h h1 h2=>by subst hQ; exact ⟨h1,h2⟩
 clear hQ
 unfold y
 rw [K90,K88]
 refine b1c (fun t h=>t 0 = .agg (aA a)/\h=Heap.empty) ⟨rfl,rfl⟩ fun t h ⟨s0,hh⟩=>?_
 subst hh
 refine b03 fun K hK=>?_
 simp only [go_sem,s0]
 refine hK _ _ ?_
 clear hK K
 simp only [b0f]
 rw [K90,K88]
 refine b0b fun K hK=>?_
 simp only [go_sem]
 refine b01 (k1 a e he) ?_
 simp only [go_sem]
 refine hK _ _ ?_
 clear hK K
 refine b0b fun K hK=>?_
 simp only [go_sem]
 refine hK _ _ ?_
 clear hK K
 refine K7d (x:=!(decide (e=0))) (by simp only [go_sem,decide_not]) (fun hc=>?_) (fun hc=>?_)
 ·rw [if_pos hc] at hm0
  obtain rfl:=Option.some.inj hm0
  refine b0b fun K hK=>?_
  simp only [go_sem]
  refine hK _ _ ?_
  clear hK K
  simp only [b0x,b1p]
  exact Qret _ _ (d66 (v:=nilS) (u:=I e) (by simp only [go_sem]) (by simp only [go_sem]) (.nil _) (.refl _ (b0e _))) K7h
 rw [if_neg (by rw [hc]; simp)] at hm0
 split at hm0
 case isFalse=>cases hm0
 rename_i hb
 obtain ⟨hb1,hb2,hb3⟩:=hb
 obtain ⟨l,hl,hm0⟩:=b0g hm0
 obtain rfl:=Option.some.inj hm0
 simp only [b0s,b0f]
 rw [K90,K88]
 refine b03 fun K hK=>?_
 simp only [go_sem]
 refine hK _ _ ?_
 clear hK K
 simp only [b0f]
 rw [K90,K90,K88]
 refine b03 fun K hK=>?_
 simp only [go_sem]
 refine b01 (k3 a) ?_
 simp only [go_sem]
 refine hK _ _ ?_
 clear hK K
 simp only [b0f]
 rw [K8e]
 obtain ⟨T,hT⟩:∃ T:Nat,a.Ticks=T:=⟨a.Ticks.toNat,by omega⟩
 have hT2:a.Ticks.toNat=T:=by omega
 rw [hT2] at hl
 obtain ⟨xs,hxs⟩:=K7l (fun x=>x∈c63 T a.Machine.Inputs.length) (c63 T a.Machine.Inputs.length) fun x hx=>hx
 have hlen:xs.length=1+a.Machine.Inputs.length * (2 * T):=(List.length_map _).symm.trans ((congrArg List.length hxs).trans (K6m _ _))
 have hxl:xs.length<=2000000:=by
  rw [hlen]
  have : a.Machine.Inputs.length * (2 * T)<=999 * (2 * 999):=Nat.mul_le_mul (by omega) (by omega)
  omega
 refine K8g (fun t h=>∃ b,t 1 = .fp (aA a) 0/\t 5 = .rp b 0 0/\t 15 = .fn "newel/faults.theories$1" [] [.fp (aA a) 0]/\J a b [] h) ⟨0,by simp only [go_sem],by simp only [go_sem]; rfl,by simp only [go_sem],K5u K7h (by decide),Nat.zero_lt_one,nilS,[],rfl,c0o,trivial,rfl⟩ ?_
 rintro t h ⟨b,s1,s5,s15,hJ0⟩
 refine K8f (fun x=>K63 x.1) (J:=fun pre h=>J a b (pre.map fun x=>toT x.1) h) (f := "newel/faults.theories$1") (cs:=[.fp (aA a) 0]) (xs:=xs) s15 (b0a (.fp _ _ (frA a)) b0j) ?_ (fun k h hj=>hj.nm) hJ0 ?_ ?_
 ·exact K80 _ (aA a) 1 a.Machine.Inputs.length T (List.map eS a.Machine.Inputs) rfl (List.length_map _) (by rw [<- hT]; rfl) hb1 (by omega) (V0 _ _) (fun i v t h1 h2 h3=>V1 h1 h2 h3) xs hxs
 ·intro pre x h1 hlt hj
  clear hJ0 s15
  obtain ⟨v,l1,hob,how,hnv,hth⟩:=hj.ex
  have hnm:=hj.nm
  have hbl:=hj.bl
  have hl1:=K7q a hth
  rw [List.length_map] at hl1
  obtain ⟨s,hs⟩:∃ s,u0k a (toT x.1)=some s:=K7r a hl _ (by rw [<- K68]; exact List.mem_map.2 ⟨x.1,x.2,rfl⟩)
  have hsn:=K7s a _ hth hs
  obtain ⟨⟨x1,x2,x3⟩,hx⟩:=x
  have hr:ap 24 l1 [toT (x1,x2,x3)]=some (l1++[toT (x1,x2,x3)]):=b9k (by simp only [List.length_cons,List.length_nil]; omega)
  generalize hrd:l1++[toT (x1,x2,x3)]=r at hr
  refine b03 fun K hK=>?_
  simp only [go_sem,K63]
  refine hK _ _ ?_
  clear hK K
  simp only [b0f]
  refine ⟨K6g (K5u hnm (by decide)) (by decide),?_⟩
  rw [b0u]
  refine b0b fun K hK=>?_
  simp only [go_sem,s1]
  refine r2x ?_ (b0a (.agg _ (frA a)) (b0a (.agg _ (b0a (b0e _) (b0a (b0e _) (b0a (b0e _) b0j)))) (b0a (b0e _) b0j))) (k2 a ⟨x1,x2,x3⟩ s hs) ?_
  ·exact .cons (.refl _ (.agg _ (frA a))) (.cons (.refl _ (.agg _ (b0a (b0e _) (b0a (b0e _) (b0a (b0e _) b0j))))) (.cons (.nil _) .nil))
  simp only [go_sem]
  refine hK _ _ ?_
  clear hK K
  refine b0b fun K hK=>?_
  simp only [go_sem]
  refine hK _ _ ?_
  clear hK K
  refine K7d (x:=s.2) (by simp only [go_sem]) (fun hc=>?_) (fun hc=>?_)
  ·refine b03 fun K hK=>?_
   simp only [go_sem,s5,hob,hbl]
   refine b3a (f:=u26) (l:=l1) (m:=[toT (x1,x2,x3)]) ?_ ?_ ?_ ?_ hr ?_
   ·exact b3x how (by intro j hj hl; first|rfl|simp only [go_sem,hl]) (by simp only [go_sem,nxs]; omega)
   ·exact b4t (by simp only [go_sem,toT,List.map_cons,List.map_nil]) (by simp)
   ·exact b4r (b1v how (by simp only [go_sem,nxs]; omega))
   ·exact fun _=>by simp
   simp only [go_sem,s5,hob,hbl,hnv]
   refine hK _ _ ?_
   clear hK K
   simp only [b02,b0f]
   refine ⟨?_,?_,_,r,c53 rfl,b2v (by simp only [go_sem,hbl]) (by simp) (by simp only [go_sem]),?_,?_⟩
   ·exact K6g (K8s (K5u (K6g (K5u hnm (by decide)) (by decide)) (by decide)) (by decide)) (by decide)
   ·simp only [go_sem,nxs]; omega
   ·refine b1y ?_
    simp only [go_sem,nxs]; omega
   ·rw [List.map_append,List.map_cons,List.map_nil,hsn,hc,if_pos rfl,hrd]
  ·simp only [b0s,b02,b0f]
   refine ⟨?_,?_,v,l1,by simp only [go_sem,hob,hbl],b3x how (by intro j hj hl; first|rfl|simp only [go_sem,hl]) (by simp only [go_sem,nxs]; omega),hnv,?_⟩
   ·exact K6g (K5u hnm (by decide)) (by decide)
   ·simp only [go_sem,nxs]; omega
   ·rw [List.map_append,List.map_cons,List.map_nil,hsn,hc,if_neg (by simp),List.append_nil]
 ·intro h' hj
  clear hJ0
  obtain ⟨v,l1,hob,how,hnv,hth⟩:=hj.ex
  have exs:xs.map (fun x=>toT x.1)=l10 a.Machine.Inputs.length T:=(List.map_map (f:=fun x:{ x // x∈c63 T a.Machine.Inputs.length }=>x.1) (g:=toT) (l:=xs)).symm.trans ((congrArg (List.map toT) hxs).trans (K68 _ _))
  rw [exs,hl] at hth
  obtain rfl:=Option.some.inj hth
  simp only [b02,b0f]
  rw [K88]
  refine b0b fun K hK=>?_
  simp only [go_sem,s5,hob,b5r v]
  refine hK _ _ ?_
  clear hK K
  simp only [b0x,b1p,b2e]
  exact Qret _ _ (d66 (v:=v) (u:=I 0) (by simp only [go_sem]) (by simp only [go_sem]) (r8x (f:=u26) how x5h x6w) (.refl _ (b0e _))) hj.nm
end Th
open Th
theorem K6r (hf:Has O "newel/faults.theories" x_faults_theories) (u3k:u2l O) (u0r:s97 O):K6c O:=by
 exact K8o u3k u0r (K8q hf)
end Go.Nw.AM
