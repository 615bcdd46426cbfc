/- Plain laws on the models. -/
import Derived.Test.YtccjacnppmciaaaGreatDoorP2
import Derived.Test.YtccjacnppmciaaaGreatDoorP3
import Derived.Test.YtccjacnppmciaaaGreatDoorKAM1
set_option linter.all false
namespace Go.Nw.AM
open Go.Nw.Acc
set_option maxHeartbeats 4000000
theorem u7p {h:Heap} {v:AV} {l:List Int} (hv:K35 h v l):Fz h v (.fs 1 (List.map eI l)):=by
 rcases hv with ⟨rfl,rfl⟩|⟨id,rest,rfl,ho,_⟩
 ·exact .nil 1
 ·refine .rs id 0 _ 1 _ _ ho (by simp) (by simp) (fun d hd=>?_) (fun i j c d h1 h2=>?_)
  ·obtain ⟨a,_,rfl⟩:=List.mem_map.1 hd; rfl
  ·rw [Nat.zero_add] at h1
   have hi:i<l.length:=by
    unfold at2 at h2
    obtain ⟨e,he,_⟩:=bE9.1 h2
    have := (gS9.1 he).1; simpa using this
   have e1:at2 (List.map eI l++rest) i j=at2 (List.map eI l) i j:=by
    unfold at2; rw [List.getElem?_append_left (by simpa using hi)]
   rw [e1,h2] at h1; cases h1
   obtain ⟨e,he,hc⟩:=b9m h2
   have hm:=mG9 he
   obtain ⟨a,_,rfl⟩:=List.mem_map.1 hm
   exact .refl _ (b1t a _ (mG9 hc))
theorem u82 {n:Nat}:b2d (.mp n)=true:=rfl
theorem u81 {n:Nat}:cellsOf (.mp n)=[.mp n]:=rfl
variable {O:Orac} [MapsOk O] [DynOk O]
def l64 (a:Accident) (t:Theory):faults_inquiry:=⟨a,⟨a.Machine⟩,t⟩
theorem u9j (kC:∀ k,K86 O k) {a:Accident} {t_:Theory} {keep_n:String} {keep_a keep_b:List AV} {keep:Kp} (keep_z:Frz (.fn keep_n keep_a keep_b)) (keep_h:∀ z0 y,keep z0=some y->Fn O keep_n (keep_a++[I z0]++keep_b) (B y))
  {fits_n : String} {fits_a fits_b:List AV} {fits:Ft} (fits_z:Frz (.fn fits_n fits_a fits_b)) (fits_h:∀ z0 z1 z2 y,fits z0 z1 z2=some y->Fn O fits_n (fits_a++[I z0,.agg [I z1.State,I z1.Values.1,I z1.Values.2],I z2]++fits_b) (B y))
  {r : List Int × Bool} (hm0:s89 a t_ keep fits=some r) {L:AV} (hL:L = .fs 1 (List.map eI r.1)\/L = .dead) {t:Slots} {h:Heap} {iq im:Nat} (s8:t 8 = .rp iq 0 0) (H:IQ h iq im nilS (l64 a t_) (.fn keep_n keep_a keep_b) (.fn fits_n fits_a fits_b) [] []) :
  cw O (.seq (.seq (.reg u5s) (.cond (.t 38) (.seq (.reg u5t) .ret) .skip)) (.seq (.reg u5u) .ret)) (c4n [.t 6,.t 7] (.tup [L,B r.2]) []) t h:=by
 unfold s89 at hm0
 obtain ⟨rr,hr,hm0⟩:=b0g hm0
 obtain rfl:=Option.some.inj hm0
 refine b0v ?_
 refine b2p (fun t h=>∃ v',t 8 = .rp iq 0 0/\t 38=B (!rr.1)/\IQ h iq im v' (l64 a t_) (.fn keep_n keep_a keep_b) (.fn fits_n fits_a fits_b) rr.2.1 rr.2.2) (fun K hK=>?_) ?_
 ·simp only [go_sem,s8]
  refine d9m (kC _ (l64 a t_) keep_n keep_a keep_b keep keep_z keep_h fits_n fits_a fits_b fits fits_z fits_h ⟨0,⟨0,(0,0)⟩,0⟩ [] [] iq im nilS h H rr hr) ?_
  rintro _ h2 ⟨rfl,v3,H3⟩
  simp only [go_sem]
  exact hK _ _ ⟨v3,by simp only [go_sem,s8],by simp only [go_sem],H3⟩
 rintro t h ⟨v',s8,s38,H⟩
 refine b0i fun K hK=>?_
 simp only [go_sem,s38]
 refine b0k (fun hc=>?_) (fun hc=>?_)
 ·refine b0b fun K hK=>?_
  simp only [go_sem]
  refine hK _ _ ?_
  clear hK K
  simp only [b0x,b1p,b0y]
  have e:rr.1=false:=by simpa using hc
  rw [e]
  have hl:Fz h nilS L:=by
   rcases hL with rfl|rfl
   ·rw [e]; exact .nil _
   ·exact .dead _
  exact d66 (v:=nilS) (u:=B false) (by simp only [go_sem]) (by simp only [go_sem]) hl (.refl _ (b0e _))
 ·simp only [b0s,b0f]
  refine hK _ _ ?_
  clear hK K
  have hqs:=H.q
  simp only [QC] at hqs
  have e:rr.1=true:=by simpa using hc
  refine b0b fun K hK=>?_
  simp only [go_sem,s8,hqs,b5r v']
  refine hK _ _ ?_
  clear hK K
  simp only [b0x,b0y]
  rw [e]
  have hl:Fz h v' L:=by
   rcases hL with rfl|rfl
   ·rw [e]; exact u7p H.ow
   ·exact .dead _
  exact d66 (v:=v') (u:=B true) (by simp only [go_sem]) (by simp only [go_sem]) hl (.refl _ (b0e _))
theorem IQ.keep {h:Heap} {iq im:Nat} {v:AV} {q:faults_inquiry} {kf ff kf':AV} {dead:b54} {ins:List Int} (H:IQ h iq im v q kf ff dead ins) :
  IQ (h.upd iq (some (20,[QC q kf' ff im v]))) iq im v q kf' ff dead ins :=
 ⟨c53 rfl,H.ql,by rw [g3s (fun e=>H.ne e.symm)]; exact H.m,H.ml,s9q H.ow (fun j hj _=>g3s (fun e=>hj (by subst e; exact H.nq))) (Nat.le_refl _),H.ne,H.nq,H.nm⟩
theorem IQ.fits {h:Heap} {iq im:Nat} {v:AV} {q:faults_inquiry} {kf ff ff':AV} {dead:b54} {ins:List Int} (H:IQ h iq im v q kf ff dead ins) :
  IQ (h.upd iq (some (20,[QC q kf ff' im v]))) iq im v q kf ff' dead ins :=
 ⟨c53 rfl,H.ql,by rw [g3s (fun e=>H.ne e.symm)]; exact H.m,H.ml,s9q H.ow (fun j hj _=>g3s (fun e=>hj (by subst e; exact H.nq))) (Nat.le_refl _),H.ne,H.nq,H.nm⟩
theorem u9i (hf:Has O "newel/faults.search" x_faults_search) (kC:∀ k,K86 O k) {a:Accident} {t_:Theory} {opts:List AV} (hz:∀ o∈opts,Frz o) (hlen:opts.length<=1000) (kf ff:Nat->AV) (k0:kf 0 = .fn "newel/faults.search$1" [] []) (f0:ff 0 = .fn "newel/faults.search$2" [] [])
  (hstep : ∀ (k:Nat) o,opts[k]?=some o->∃ nm oa ob,o = .fn nm oa ob/\b2k nm=none/\∀ h iq im,IQ h iq im nilS (l64 a t_) (kf k) (ff k) [] []->b6e O nm (oa++[.rp iq 0 0]++ob) h (fun _ h'=>IQ h' iq im nilS (l64 a t_) (kf (k+1)) (ff (k+1)) [] []))
  {keep_n : String} {keep_a keep_b:List AV} {keep:Kp} (keep_z:Frz (.fn keep_n keep_a keep_b)) (keep_h:∀ z0 y,keep z0=some y->Fn O keep_n (keep_a++[I z0]++keep_b) (B y))
  {fits_n : String} {fits_a fits_b:List AV} {fits:Ft} (fits_z:Frz (.fn fits_n fits_a fits_b)) (fits_h:∀ z0 z1 z2 y,fits z0 z1 z2=some y->Fn O fits_n (fits_a++[I z0,.agg [I z1.State,I z1.Values.1,I z1.Values.2],I z2]++fits_b) (B y))
  (kN : kf opts.length = .fn keep_n keep_a keep_b) (fN:ff opts.length = .fn fits_n fits_a fits_b)
  {r : List Int × Bool} (hm0:s89 a t_ keep fits=some r) {L:AV} (hL:L = .fs 1 (List.map eI r.1)\/L = .dead) :
  Fn O "newel/faults.search" [.agg (aA a),.agg [I t_.Input,I t_.Value,I t_.From],.fs 1 (opts.map fun o=>[o])] (.tup [L,B r.2]):=by
 refine b1i hf rfl (b0a (.agg _ (b0a (b0c fun a _=>b0z a) (b0a (b0c fun a _=>b0z a) (b0a (b0c fun a _=>b1q a) (b0a (b0c fun a _=>b1s a) (b0a (b0c fun a _=>b1r a) (b0a (b0c fun a _=>b2j a) (b0a (b0e _) (b0a (b0c fun a _=>c17 a) b0j))))))))) (b0a (.agg _ (b0a (b0e _) (b0a (b0e _) (b0a (b0e _) b0j)))) (b0a (.fs _ _ fun e he c hc=>?_) b0j)))
  (.tup _ (b0a (by rcases hL with rfl|rfl; exact b0c fun a _=>b1t a; exact .dead) (b0a (b0e _) b0j))) ?_
 ·obtain ⟨o,ho,rfl⟩:=List.mem_map.1 he
  rw [List.mem_singleton.1 hc]; exact hz o ho
 refine b1c (fun t h=>t 0 = .agg (aA a)/\t 1 = .agg [I t_.Input,I t_.Value,I t_.From]/\t 2 = .fs 1 (opts.map fun o=>[o])) ⟨rfl,rfl,rfl⟩ fun t h ⟨s0,s1,s2⟩=>?_
 simp only [x_faults_search]
 refine b0b fun K hK=>?_
 simp only [go_sem,s0,s1]
 refine hK _ _ ?_
 clear hK K
 refine b2p (fun t h=>∃ iq im,t 2 = .fs 1 (opts.map fun o=>[o])/\t 8 = .rp iq 0 0/\IQ h iq im nilS (l64 a t_) (.v .nilFunc) (.v .nilFunc) [] []) (fun K hK=>?_) ?_
 ·simp only [go_sem]
  refine g0d (O:=O) (e:=List.map (eM (vks s8w) vB) []) rfl ?_
  simp only [go_sem,u82,u81]
  exact hK _ _ ⟨nxs h.nx,h.nx,by simp only [go_sem,s2],by simp only [go_sem],⟨by simp only [go_sem,QC,l64],by simp only [go_sem,nxs]; omega,by simp only [go_sem],by simp only [go_sem,nxs]; omega,.inl ⟨rfl,rfl⟩,by simp only [nxs]; omega,trivial,trivial⟩⟩
 clear s0 s1 s2
 rintro t h ⟨iq,im,s2,s8,H⟩
 have hqs:=H.q
 simp only [QC] at hqs
 refine b2p (fun t h=>t 2 = .fs 1 (opts.map fun o=>[o])/\t 8 = .rp iq 0 0/\IQ h iq im nilS (l64 a t_) (.fn "newel/faults.search$1" [] []) (.v .nilFunc) [] []) (fun K hK=>?_) ?_
 ·simp only [go_sem,s8,hqs]
  exact hK _ _ ⟨by simp only [go_sem,s2],by simp only [go_sem,s8],H.keep⟩
 clear s2 s8 H hqs
 rintro t h ⟨s2,s8,H⟩
 have hqs:=H.q
 simp only [QC] at hqs
 refine b2p (fun t h=>t 2 = .fs 1 (opts.map fun o=>[o])/\t 8 = .rp iq 0 0/\IQ h iq im nilS (l64 a t_) (.fn "newel/faults.search$1" [] []) (.fn "newel/faults.search$2" [] []) [] []) (fun K hK=>?_) ?_
 ·simp only [go_sem,s8,hqs]
  exact hK _ _ ⟨by simp only [go_sem,s2],by simp only [go_sem,s8],H.fits⟩
 clear s2 s8 H hqs
 rintro t h ⟨s2,s8,H⟩
 refine b0v ?_
 refine b0b fun K hK=>?_
 simp only [go_sem,s2]
 refine hK _ _ ?_
 clear hK K
 refine b0i fun K1 hK1=>?_
 simp only [b0u]
 have hloop:b0w (fun x:Int=>if decide (x<(opts.length:Int)) then some (Out.nx (wr (x+1))) else some (.br ())) 0=some ():=by
  refine b4h opts.length (fun (_:Unit) k=>k) (fun _=>()) () (s0:=()) rfl (fun k hk=>?_) ?_
  ·simp only [Int.ofNat_lt,hk,decide_true,if_true,b2r hk (by simp only [maxLen]; omega:opts.length<=maxLen)]
  ·simp only [Int.lt_irrefl,decide_false,fT9,if_false]
 refine b1j hloop (fun x t h=>∃ k:Nat,x=(k:Int)/\k<=opts.length/\t 8 = .rp iq 0 0/\t 25 = .fs 1 (opts.map fun o=>[o])/\t 26=I (opts.length:Int)/\t 27=I x/\IQ h iq im nilS (l64 a t_) (kf k) (ff k) [] []) ?_ ?_
 ·exact ⟨0,rfl,Nat.zero_le _,by simp only [go_sem,s8],by simp only [go_sem],by simp only [go_sem],by simp only [go_sem],by rw [k0,f0]; exact H⟩
 clear s2 s8 H
 rintro x o t h ⟨k,rfl,hk,s8,s25,s26,s27,H⟩ hm1 hb
 rw [u5v]
 refine b0b fun K hK=>?_
 simp only [go_sem,s26,s27]
 refine hK _ _ ?_
 clear hK K
 refine b0i fun K2 hK2=>?_
 simp only [go_sem]
 refine b0k (fun hc=>?_) (fun hc=>?_)
 ·rw [b0r hc] at hm1
  obtain rfl:=Option.some.inj hm1
  have hk':k<opts.length:=by simpa using hc
  obtain ⟨o,ho⟩:=b3b hk'
  obtain ⟨nm,oa,ob,rfl,hmn,hst⟩:=hstep k o ho
  simp only [b0s,b0f]
  refine hK2 _ _ ?_
  refine b0i fun K3 hK3=>?_
  simp only [b0u]
  have hg:get opts (k:Int)=some (.fn nm oa ob):=b1h ho
  have hel:((opts.map fun o=>[o]):List (List AV))[k]?=some [.fn nm oa ob]:=by rw [List.getElem?_map,ho]; rfl
  refine b0b fun K hK=>?_
  simp only [go_sem,s25,s27,b08 hg]
  refine hK _ _ ?_
  clear hK K
  refine b03 fun K hK=>?_
  simp only [go_sem,s8]
  refine u8l (hst h iq im H) hmn ?_
  intro w h' H'
  simp only [go_sem]
  refine hK _ _ ?_
  clear hK K
  simp only [b02,b0f]
  refine hK3 _ _ ?_
  refine b03 fun K hK=>?_
  simp only [go_sem,s27]
  refine hK _ _ ?_
  clear hK K
  simp only [b0f]
  exact ⟨_,rfl,k+1,by rw [b2r hk' (by simp only [maxLen]; omega:opts.length<=maxLen)]; rfl,by omega,by simp only [go_sem,s8],by simp only [go_sem,s25],by simp only [go_sem,s26],by simp only [go_sem],H'⟩
 ·rw [b0q hc] at hm1
  obtain rfl:=Option.some.inj hm1
  have : k=opts.length:=by have:¬ k<opts.length:=by simpa using hc
                           omega
  subst this
  simp only [b09,b1b,b1a,b0f]
  refine hK1 _ _ ?_
  rw [kN,fN] at H
  exact u9j kC keep_z keep_h fits_z fits_h hm0 hL (by simp only [go_sem,s8]) H
theorem u45 {n:String}:Frz (.fn n [] []):=.fn _ _ _ (fun c hc=>by simp at hc) (fun c hc=>by simp at hc)
theorem u8p (k1:s98 O):∀ z0 y,(fun _:Int=>some true) z0=some y->Fn O "newel/faults.search$1" ([]++[I z0]++[]) (B y):=fun z0 y hy=>by
 cases hy; exact k1 z0
theorem u7k (k2:z1x O):∀ z0 z1 z2 y,(fun (_:Int) (_:Place) (_:Int)=>some true) z0 z1 z2=some y->Fn O "newel/faults.search$2" ([]++[I z0,.agg [I z1.State,I z1.Values.1,I z1.Values.2],I z2]++[]) (B y):=fun z0 z1 z2 y hy=>by
 cases hy; exact k2 z0 z1 z2
theorem u8n (hf:Has O "newel/faults.search" x_faults_search) (kC:∀ k,K86 O k) (k1:s98 O) (k2:z1x O):s97 O:=fun a t_ r hm0 =>
 u9i hf kC (opts:=[]) (fun o ho=>by simp at ho) (by simp) (fun _=>.fn "newel/faults.search$1" [] []) (fun _=>.fn "newel/faults.search$2" [] []) rfl rfl (fun k o ho=>by simp at ho) u45 (u8p k1) u45 (u7k k2) rfl rfl hm0 (.inl rfl)
def u2i (O:Orac):Prop:=∀ k,K86 O k
theorem u3h (hf:Has O "(*newel/faults.inquiry).course" x___faults_inquiry__course) (d2w:c9y O) (d2x:c9z O) (d20:c92 O) (u3f:u1g O) (u3g:u1h O):u2i O:=by
 exact u48 hf d2w d2x d20 u3f u3g
theorem u0r (hf:Has O "newel/faults.search" x_faults_search) (u3h:u2i O) (u3l:s98 O) (u3m:z1x O):s97 O:=by
 exact u8n hf u3h u3l u3m
end Go.Nw.AM
namespace Go.Nw.AM
noncomputable section
section
variable {a:Accident} {th:Theory} {l:List Nat} {want:Nat}
theorem u5h {t:Nat} {s:Place × Nat} {x:Nat} {m':Nat × Place × Nat} (hr:Rch a th l t s) (hx:x<nA a) (h:TD a th l (t,s) x=some m'):m'.1=t+1/\Rch a th l (t+1) m'.2/\m'=(t+1,m'.2):=by
 obtain ⟨D',_,_,e⟩:=u1f h
 subst e
 exact ⟨rfl,⟨s,hr,x,hx,h⟩,rfl⟩
theorem u8q (hs:Small a) {rows:List (List r10_knot)} {row:List r10_knot} (hr:rows[tA a]?=some row) (hrow:s8t a th l (tA a) row) :
  ∃ nx,b0w (s9z a rows (want:Int)) ([],0)=some nx/\r61 a th l want (tA a) nx:=by
 have hp4:=u00 (tA6 hs)
 have hT:=s9b hs.ok
 obtain ⟨hlen,hmem⟩:=hrow
 obtain ⟨b,h1,h2,h3⟩:=j7u (f:=s9z a rows (want:Int)) row.length (fun s k=>(s,k))
  (fun i nx=>nx.length<=i/\∀ k,k∈nx ↔ ∃ j,j<i/\row[j]?=some k/\k.done=(want:Int))
  (fun nx=>nx.length<=row.length/\∀ k,k∈nx ↔ ∃ j,j<row.length/\row[j]?=some k/\k.done=(want:Int)) (fun nx i hi ⟨i1,i2⟩=>by
   obtain ⟨k,hk⟩:=b3b hi
   unfold s9z
   simp only [<- hT,b1h hr,b1h hk,bS9,Int.ofNat_lt,hi,decide_true,if_true,u1x]
   unfold u09
   have hw:wr ((i:Int)+1)=(i:Int)+1:=b2r hi (by simp only [maxLen]; omega)
   by_cases c:k.done=(want:Int)
   ·rw [if_pos (by simp [c]),b6x (by omega) (by simp) (by omega),bS9,hw]
    refine .inl ⟨_,rfl,by simp; omega,fun k'=>?_⟩
    rw [List.mem_append,List.mem_singleton,i2 k']
    constructor
    ·rintro (⟨j,q1,q2⟩|rfl)
     ·exact ⟨j,by omega,q2⟩
     ·exact ⟨i,by omega,hk,c⟩
    ·rintro ⟨j,q1,q2,q3⟩
     by_cases e:j=i
     ·subst e; rw [hk] at q2; cases q2; exact .inr rfl
     ·exact .inl ⟨j,by omega,q2,q3⟩
   ·rw [if_neg (by simp [c]),hw]
    refine .inl ⟨_,rfl,by omega,fun k'=>?_⟩
    rw [i2 k']
    constructor
    ·rintro ⟨j,q1,q2⟩; exact ⟨j,by omega,q2⟩
    ·rintro ⟨j,q1,q2,q3⟩
     by_cases e:j=i
     ·subst e; rw [hk] at q2; cases q2; exact absurd q3 c
     ·exact ⟨j,by omega,q2,q3⟩) (fun nx ⟨i1,i2⟩=>by
   refine ⟨nx,?_,i1,i2⟩
   unfold s9z
   simp only [<- hT,b1h hr,bS9,Int.lt_irrefl,decide_false,fT9,if_false]) 0 (Nat.zero_le _) (s:=[]) ⟨by simp,fun k=>by simp⟩
 refine ⟨b,h1,by omega,fun k=>?_⟩
 rw [h3 k]
 constructor
 ·rintro ⟨j,_,q2,q3⟩
  obtain ⟨s,r1,rfl⟩:=(hmem k).1 (b1d.2 ⟨j,q2⟩)
  refine ⟨s,r1,⟨[],(u2y rfl).2 ⟨rfl,?_⟩⟩,rfl⟩
  have : ((s.2:Nat):Int)=(want:Int):=q3
  show s.2=want; omega
 ·rintro ⟨s,r1,⟨w,hw⟩,rfl⟩
  obtain ⟨j,hj⟩:=b1d.1 ((hmem _).2 ⟨s,r1,rfl⟩)
  refine ⟨j,b1k hj,hj,?_⟩
  have : s.2=want:=((u2y (m:=(tA a,s)) rfl).1 hw).2
  show ((s.2:Nat):Int)=_; rw [this]
variable (hs:Small a) (hth:OkT a th) (hl:∀ i∈l,i<a.Records.length) (hl8:l.length<=8)
include hs hth hl hl8
theorem u7d {rows:List (List r10_knot)} {row nrow:List r10_knot} {t i:Nat} {s:Place × Nat} (ht:t<tA a) (hr:rows[t]?=some row) (hi:row[i]?=some (kn s)) (hn:rows[t+1]?=some nrow) (hnrow:r61 a th l want (t+1) nrow) (hR:Rch a th l t s) :
  ∃ b,b0w (s90 a th (toI l) ((nA a:Nat):Int) rows (t:Int) (i:Int)) (false,0)=some b/\(b=true ↔ b64 a th l want (t,s)):=by
 have h4:=nA4 hs
 have h6:=tA6 hs
 have hp4:=u00 (show t+1<=6 by omega)
 obtain ⟨hlen,hmem⟩:=hnrow
 obtain ⟨hp,hD⟩:=u2f hs.ok hR
 rw [u5b (m:=(t,s)) ht]
 obtain ⟨b,h1,h2⟩:=j7u (f:=s90 a th (toI l) ((nA a:Nat):Int) rows (t:Int) (i:Int)) (nA a) (fun s k=>(s,k))
  (fun x b=>b=true ↔ ∃ y,y<x/\∃ m',TD a th l (t,s) y=some m'/\b64 a th l want m')
  (fun b=>b=true ↔ ∃ y,y<nA a/\∃ m',TD a th l (t,s) y=some m'/\b64 a th l want m') (fun b x hx i1=>by
   have hxx:((x:Int)<((nA a:Nat):Int)):=by omega
   unfold s90
   dsimp only
   cases b with
   | true =>
    rw [if_neg (by simp)]
    refine .inr ⟨true,rfl,fun _=>?_,fun _=>rfl⟩
    obtain ⟨y,hy,q⟩:=i1.1 rfl
    exact ⟨y,by omega,q⟩
   | false =>
    rw [if_pos (by simp [hxx])]
    obtain ⟨k,b,g1,g2⟩:=u4d (m:=(t,s)) hs.ok hth hl hl8 hp hD hx
    have hwt:wr ((t:Int)+1)=((t+1:Nat):Int):=by rw [b3t (by omega) (by omega)]; simp
    simp only [b1h hr,b1h hi,bS9,u1x,hwt,b1h hn]
    rw [show l97 a th (toI l) (t:Int) (kn s) (x:Int)=_ from g1,bS9,b2r hx (by simp only [maxLen]; omega)]
    have hno:¬ ∃ y,y<x/\∃ m',TD a th l (t,s) y=some m'/\b64 a th l want m':=fun q=>by have:=i1.2 q; cases this
    cases htd:TD a th l (t,s) x with
    | none =>
     rw [htd] at g2
     simp only at g2
     subst g2
     simp only [fT9,if_false,bS9]
     refine .inl ⟨false,rfl,⟨(fun h=>by cases h),?_⟩⟩
     rintro ⟨y,hy,m',q1,q2⟩
     by_cases e:y=x
     ·subst e; rw [htd] at q1; cases q1
     ·exact absurd ⟨y,by omega,m',q1,q2⟩ hno
    | some m' =>
     rw [htd] at g2
     simp only at g2
     obtain ⟨rfl,rfl⟩:=g2
     simp only [if_true]
     obtain ⟨j,j1,j2⟩:=g0i (l:=nrow) (by omega) (kn m'.2)
     rw [j1,bS9,bS9]
     obtain ⟨_,q2,q3⟩:=u5h hR hx htd
     have hin:kn m'.2∈nrow ↔ b64 a th l want m':=by
      rw [hmem]
      constructor
      ·rintro ⟨s',r1,r2,r3⟩
       rw [q3,s9n r3]; exact r2
      ·intro h
       exact ⟨m'.2,q2,by rw [<- q3]; exact h,rfl⟩
     refine .inl ⟨_,rfl,?_⟩
     rw [decide_eq_true_eq,j2,hin]
     constructor
     ·intro h; exact ⟨x,by omega,m',htd,h⟩
     ·rintro ⟨y,hy,m2,r1,r2⟩
      by_cases e:y=x
      ·subst e; rw [htd] at r1; cases r1; exact r2
      ·exact absurd ⟨y,by omega,m2,r1,r2⟩ hno) (fun b i1=>by
   refine ⟨b,?_,i1⟩
   unfold s90
   dsimp only
   rw [if_neg (by simp)]) 0 (Nat.zero_le _) (s:=false) (by simp)
 exact ⟨b,h1,h2⟩
theorem u6l {rows:List (List r10_knot)} {row nrow:List r10_knot} {t:Nat} (ht:t<tA a) (hr:rows[t]?=some row) (hrow:s8t a th l t row) (hn:rows[t+1]?=some nrow) (hnrow:r61 a th l want (t+1) nrow) :
  ∃ nx,b0w (s91 a th (toI l) ((nA a:Nat):Int) rows (t:Int)) ([],0)=some nx/\r61 a th l want t nx:=by
 have h6:=tA6 hs
 have hp4:=u00 (show t<=6 by omega)
 obtain ⟨hlen,hmem⟩:=hrow
 obtain ⟨b,h1,h2,h3⟩:=j7u (f:=s91 a th (toI l) ((nA a:Nat):Int) rows (t:Int)) row.length (fun s k=>(s,k))
  (fun i nx=>nx.length<=i/\∀ k,k∈nx ↔ ∃ j s,j<i/\row[j]?=some (kn s)/\b64 a th l want (t,s)/\k=kn s)
  (fun nx=>nx.length<=row.length/\∀ k,k∈nx ↔ ∃ j s,j<row.length/\row[j]?=some (kn s)/\b64 a th l want (t,s)/\k=kn s) (fun nx i hi ⟨i1,i2⟩=>by
   obtain ⟨k,hk⟩:=b3b hi
   obtain ⟨s,hs1,rfl⟩:=(hmem k).1 (b1d.2 ⟨i,hk⟩)
   obtain ⟨b,g1,g2⟩:=u7d hs hth hl hl8 ht hr hk hn hnrow hs1
   have hw:wr ((i:Int)+1)=(i:Int)+1:=b2r hi (by simp only [maxLen]; omega)
   unfold s91
   simp only [b1h hr,bS9,Int.ofNat_lt,hi,decide_true,if_true,g1]
   unfold u17 u08
   cases b with
   | true =>
    simp only [if_true,b1h hr,b1h hk,bS9,u1x]
    rw [b6x (by omega) (by simp) (by omega),bS9,hw]
    refine .inl ⟨_,rfl,by simp; omega,fun k'=>?_⟩
    rw [List.mem_append,List.mem_singleton,i2 k']
    constructor
    ·rintro (⟨j,s2,q1,q2⟩|rfl)
     ·exact ⟨j,s2,by omega,q2⟩
     ·exact ⟨i,s,by omega,hk,g2.1 rfl,rfl⟩
    ·rintro ⟨j,s2,q1,q2,q3,q4⟩
     by_cases e:j=i
     ·subst e; rw [hk] at q2; rw [q4]; exact .inr (Option.some.inj q2).symm
     ·exact .inl ⟨j,s2,by omega,q2,q3,q4⟩
   | false =>
    simp only [fT9,if_false]
    rw [hw]
    refine .inl ⟨_,rfl,by omega,fun k'=>?_⟩
    rw [i2 k']
    constructor
    ·rintro ⟨j,s2,q1,q2⟩; exact ⟨j,s2,by omega,q2⟩
    ·rintro ⟨j,s2,q1,q2,q3,q4⟩
     by_cases e:j=i
     ·subst e; rw [hk] at q2
      rw [<- s9n (Option.some.inj q2)] at q3
      have := g2.2 q3; cases this
     ·exact ⟨j,s2,by omega,q2,q3,q4⟩) (fun nx ⟨i1,i2⟩=>by
   refine ⟨nx,?_,i1,i2⟩
   unfold s91
   simp only [b1h hr,bS9,Int.lt_irrefl,decide_false,fT9,if_false]) 0 (Nat.zero_le _) (s:=[]) ⟨by simp,fun k=>by simp⟩
 refine ⟨b,h1,by omega,fun k=>?_⟩
 rw [h3 k]
 constructor
 ·rintro ⟨j,s,_,q2,q3,q4⟩
  obtain ⟨s2,r1,r2⟩:=(hmem _).1 (b1d.2 ⟨j,q2⟩)
  rw [<- s9n r2] at r1
  exact ⟨s,r1,q3,q4⟩
 ·rintro ⟨s,r1,r2,rfl⟩
  obtain ⟨j,hj⟩:=b1d.1 ((hmem _).2 ⟨s,r1,rfl⟩)
  exact ⟨j,s,b1k hj,hj,r2,rfl⟩
theorem u5a:∃ (W:Nat) (rows:List (List r10_knot)),u0c (al a) (c49 l) a.Records.length W/\s9u a th (toI l)=some rows/\rows.length=tA a+1/\∀ t,t<=tA a->∃ row,rows[t]?=some row/\r61 a th l W t row:=by
 have h6:=tA6 hs
 have hT:=s9b hs.ok
 obtain ⟨rows,f1,f2,f3⟩:=u7l hs hth hl hl8
 obtain ⟨W,w1,w2,w3⟩:=v01 hl hs.ok hl8
 obtain ⟨rowT,r1,r2⟩:=f3 (tA a) (Nat.le_refl _)
 obtain ⟨last,l1,l2⟩:=u8q (want:=W) hs r1 r2
 have hset:(rows.set (tA a) last)[tA a]?=some last:=by rw [List.getElem?_set_self (by omega)]
 obtain ⟨b,h1,h2⟩:=j7u (f:=u06 a th (toI l) ((nA a:Nat):Int)) (tA a) (fun (s:List (List r10_knot)) (k:Int)=>(s,(tA a:Int) - 1 - k))
  (fun k rows=>rows.length=tA a+1/\(∀ u,u+k<tA a->∃ row,rows[u]?=some row/\s8t a th l u row)/\∀ u,u<=tA a->tA a<=u+k->∃ row,rows[u]?=some row/\r61 a th l W u row)
  (fun rows=>rows.length=tA a+1/\∀ u,u<=tA a->∃ row,rows[u]?=some row/\r61 a th l W u row) (fun rows k hk ⟨i1,i2,i3⟩=>by
   obtain ⟨t,ht⟩:∃ t,t+k+1=tA a:=⟨tA a - 1 - k,by omega⟩
   have et:(tA a:Int) - 1 - (k:Int)=(t:Int):=by omega
   obtain ⟨row,hr,hrow⟩:=i2 t (by omega)
   obtain ⟨nrow,hn,hnrow⟩:=i3 (t+1) (by omega) (by omega)
   obtain ⟨nx,g1,g2⟩:=u6l hs hth hl hl8 (by omega) hr hrow hn hnrow
   have h0:(0:Int)<=(t:Int):=by omega
   rw [et]
   unfold u06
   simp only [h0,decide_true,if_true,g1,bS9]
   unfold u16 u15
   rw [b1h hr,bS9,Int.toNat_natCast,b3t (by omega) (by omega)]
   refine .inl ⟨rows.set t nx,by congr 2; congr 1; omega,by rw [List.length_set]; exact i1,fun u hu=>?_,fun u hu hu2=>?_⟩
   ·obtain ⟨r,q1,q2⟩:=i2 u (by omega)
    exact ⟨r,by rw [List.getElem?_set_ne (by omega)]; exact q1,q2⟩
   ·by_cases e:u=t
    ·subst e
     exact ⟨nx,by rw [List.getElem?_set_self (by omega)],g2⟩
    ·obtain ⟨r,q1,q2⟩:=i3 u hu (by omega)
     exact ⟨r,by rw [List.getElem?_set_ne (fun q=>e q.symm)]; exact q1,q2⟩) (fun rows ⟨i1,i2,i3⟩=>by
   refine ⟨rows,?_,i1,fun u hu=>i3 u hu (by omega)⟩
   have e1:¬ (0:Int)<=(tA a:Int) - 1 - ((tA a:Nat):Int):=by omega
   unfold u06
   simp only [e1,decide_false,fT9,if_false]) 0 (Nat.zero_le _) (s:=rows.set (tA a) last) ⟨by rw [List.length_set]; exact f2,fun u hu=>by
    obtain ⟨r,q1,q2⟩:=f3 u (by omega)
    exact ⟨r,by rw [List.getElem?_set_ne (by omega)]; exact q1,q2⟩,fun u hu hu2=>by
    have : u=tA a:=by omega
    subst this
    exact ⟨last,hset,l2⟩⟩
 obtain ⟨g1,g2⟩:=h2
 refine ⟨W,b,w3,?_,g1,g2⟩
 unfold s9u
 rw [u5e hs.ok,bS9,f1,bS9]
 unfold u18
 rw [w1,bS9]
 unfold u19
 rw [l1,bS9]
 unfold u2a
 rw [<- hT,b1h r1,bS9,Int.toNat_natCast,b3t (by omega) (by omega)]
 rw [show ((rows.set (tA a) last,(tA a:Int) - 1):List (List r10_knot) × Int)=(rows.set (tA a) last,(tA a:Int) - 1 - ((0:Nat):Int)) by simp,h1]
 rfl
theorem u89:∃ b,z12 a th (toI l)=some b/\(b=true ↔ ∃ w,l27 (fr a) (to a) (al a) (c49 l) (hold a) (stA a th) (okA a ftT) (nA a) (tA a) a.Records.length zero w):=by
 obtain ⟨W,rows,h1,h2,h3,h4⟩:=u5a hs hth hl hl8
 obtain ⟨row,r1,_,r2⟩:=h4 0 (Nat.zero_le _)
 unfold z12
 have hg:get rows 0=some row:=b1h (k:=0) r1
 rw [h2,bS9,hg,bS9]
 refine ⟨_,rfl,?_⟩
 rw [decide_eq_true_eq]
 constructor
 ·intro h
  cases row with
  | nil=>simp at h
  | cons k ks =>
   obtain ⟨s,q1,⟨w,q2⟩,q3⟩:=(r2 k).1 (List.mem_cons_self ..)
   have : s=(zero,0):=q1
   subst this
   exact ⟨w,(u3b h1).1 q2⟩
 ·rintro ⟨w,hw⟩
  have : kn (zero,0)∈row:=(r2 _).2 ⟨(zero,0),rfl,⟨w,(u3b h1).2 hw⟩,rfl⟩
  have := List.length_pos_of_mem this
  omega
end
end
end Go.Nw.AM
namespace Go.Nw
section
variable {π:Type} {From To:Nat->Nat} {Al keep keep':Nat->Bool} {hold:Nat->π->Nat->Bool} {st:Nat->π->Nat->π} {ok ok':Nat->π->Nat->Bool} {N T n:Nat}
theorem u3c {p0:π} (hk:∀ i,i<n->keep i=keep' i) {xs:List Nat}:l27 From To Al keep hold st ok N T n p0 xs ↔ l27 From To Al keep' hold st ok N T n p0 xs:=by
 unfold l27
 refine and_congr_right fun _=>and_congr_right fun _=>⟨fun h i hi hk'=>h i hi (by rw [hk i hi]; exact hk'),fun h i hi hk'=>h i hi (by rw [<- hk i hi]; exact hk')⟩
theorem u8u {P Q:List Nat->Prop} (h:∀ w,P w ↔ Q w) {w:List Nat} (hw:Lst P w):Lst Q w:=⟨(h w).1 hw.1,fun l hl=>hw.2 l ((h l).2 hl)⟩
end
end Go.Nw
namespace Go.Nw.AM
noncomputable section
abbrev K50 (a:Accident) (th:Theory) (keep:Nat->Bool) (ft:Nat->Place->Nat->Bool):List Nat->Prop:=l27 (fr a) (to a) (al a) keep (hold a) (stA a th) (okA a ft) (nA a) (tA a) a.Records.length zero
theorem u35 {a:Accident} (hn:a.Records.length<=10):s8s a=some (toI (List.range a.Records.length)):=by
 unfold s8s u2d
 rw [b4h (f:=u1b a) a.Records.length (fun s k=>(s,k)) (fun k=>toI (List.range k)) (toI (List.range a.Records.length)) (s0:=[]) rfl (fun k hk=>by
   unfold u1b
   simp only [Int.ofNat_lt,hk,decide_true,if_true]
   rw [b6d (by rw [s95,List.length_range]; omega) (by simp) (by omega),bS9,b2r hk (D5s hn)]
   congr 3
   unfold toI; rw [List.range_succ,List.map_append]; rfl) (by
   unfold u1b
   simp only [Int.lt_irrefl,decide_false,fT9,if_false])]
 rfl
theorem u3w {n i:Nat} (hi:i<n):c49 (List.range n) i=true:=by unfold c49; simp [hi]
section
variable {a:Accident} {th:Theory} {want:Nat}
theorem u8t {l:List Nat} {m m':Nat × Place × Nat} {x:Nat} {w:List Nat} (hm:m.1<tA a) (hx:x<nA a) (ht:TD a th l m x=some m') (hw:Lst (fun w=>AcD a th l want w m') w)
  (hb : ∀ y,y<x->∀ m2,TD a th l m y=some m2->¬ b64 a th l want m2):Lst (fun w=>AcD a th l want w m) (x :: w):=by
 refine ⟨(u1t hm).2 ⟨hx,m',ht,hw.1⟩,fun l2 hl2=>?_⟩
 cases l2 with
 | nil=>unfold AcD at hl2; rw [Acc] at hl2; unfold c40 at hl2; simp at hl2; omega
 | cons y ys =>
  obtain ⟨_,m2,h1,h2⟩:=(u1t hm).1 hl2
  rcases Nat.lt_trichotomy x y with h|h|h
  ·exact .inl h
  ·subst h; rw [ht] at h1; cases h1; exact .inr ⟨rfl,hw.2 ys h2⟩
  ·exact absurd ⟨ys,h2⟩ (hb y h m2 h1)
variable (hs:Small a) (hth:OkT a th)
include hs hth
theorem u7e {rows:List (List r10_knot)} {nrow:List r10_knot} {t:Nat} {s:Place × Nat} (ht:t<tA a) (hn:rows[t+1]?=some nrow) (hnrow:r61 a th (List.range a.Records.length) want (t+1) nrow) (hR:Rch a th (List.range a.Records.length) t s) (hL:b64 a th (List.range a.Records.length) want (t,s)) {out:List Int} (ho:out.length<=t) :
  ∃ (x:Nat) (s':Place × Nat),b0w (u04 a th rows out s.1.State s.1.Values.1 s.1.Values.2 (s.2:Int) (t:Int)) 0=some (out++[(x:Int)],s'.1.State,s'.1.Values.1,s'.1.Values.2,((s'.2:Nat):Int))/\x<nA a/\TD a th (List.range a.Records.length) (t,s) x=some (t+1,s')/\b64 a th (List.range a.Records.length) want (t+1,s') /\
   ∀ y,y<x->∀ m2,TD a th (List.range a.Records.length) (t,s) y=some m2->¬ b64 a th (List.range a.Records.length) want m2:=by
 have h4:=nA4 hs
 have h6:=tA6 hs
 have hn8:=hs.ok.n
 have hp4:=u00 (show t+1<=6 by omega)
 obtain ⟨hlen,hmem⟩:=hnrow
 obtain ⟨hp,hD⟩:=u2f hs.ok hR
 obtain ⟨b,h1,h2⟩:=j7u (f:=u04 a th rows out s.1.State s.1.Values.1 s.1.Values.2 (s.2:Int) (t:Int)) (nA a) (fun (_:Unit) k=>k)
  (fun x _=>∀ y,y<x->∀ m2,TD a th (List.range a.Records.length) (t,s) y=some m2->¬ b64 a th (List.range a.Records.length) want m2)
  (fun b=>∃ (x:Nat) (s':Place × Nat),b=(out++[(x:Int)],s'.1.State,s'.1.Values.1,s'.1.Values.2,((s'.2:Nat):Int))/\x<nA a/\TD a th (List.range a.Records.length) (t,s) x=some (t+1,s')/\b64 a th (List.range a.Records.length) want (t+1,s') /\
   ∀ y,y<x->∀ m2,TD a th (List.range a.Records.length) (t,s) y=some m2->¬ b64 a th (List.range a.Records.length) want m2) (fun _ x hx i1=>by
   have hxx:((x:Int)<((nA a:Nat):Int)):=by omega
   obtain ⟨k,b,g1,g2⟩:=u4d (l:=List.range a.Records.length) (m:=(t,s)) hs.ok hth (fun i hi=>List.mem_range.1 hi) (by rw [List.length_range]; exact hn8) hp hD hx
   have hwt:wr ((t:Int)+1)=((t+1:Nat):Int):=by rw [b3t (by omega) (by omega)]; simp
   have hw:wr ((x:Int)+1)=(x:Int)+1:=b2r hx (by simp only [maxLen]; omega)
   have skip:(∀ m2,TD a th (List.range a.Records.length) (t,s) x=some m2->¬ b64 a th (List.range a.Records.length) want m2)->∀ y,y<x+1->∀ m2,TD a th (List.range a.Records.length) (t,s) y=some m2->¬ b64 a th (List.range a.Records.length) want m2:=fun h y hy m2=>by
    by_cases e:y=x
    ·subst e; exact h m2
    ·exact i1 y (by omega) m2
   unfold u04
   rw [u5e hs.ok]
   simp only [bS9,hxx,decide_true,if_true,u35 (show a.Records.length<=10 by omega),hwt,b1h hn]
   rw [show l97 a th (toI (List.range a.Records.length)) (t:Int) (r10_knot.mk (Place.mk s.1.State (s.1.Values.1,s.1.Values.2)) (s.2:Int)) (x:Int)=_ from g1,bS9]
   cases htd:TD a th (List.range a.Records.length) (t,s) x with
   | none =>
    rw [htd] at g2
    simp only at g2
    subst g2
    rw [if_neg (by simp),bS9,if_neg (by simp),hw]
    exact .inl ⟨(),rfl,skip fun m2 h=>by rw [htd] at h; cases h⟩
   | some m' =>
    rw [htd] at g2
    simp only at g2
    obtain ⟨rfl,rfl⟩:=g2
    simp only [if_true]
    obtain ⟨j,j1,j2⟩:=g0i (l:=nrow) (by omega) (kn m'.2)
    obtain ⟨_,q2,q3⟩:=u5h hR hx htd
    rw [show s8y nrow (r10_knot.mk (Place.mk (kn m'.2).place.State ((kn m'.2).place.Values.1,(kn m'.2).place.Values.2)) (kn m'.2).done)=_ from j1,bS9,bS9]
    have hin:kn m'.2∈nrow ↔ b64 a th (List.range a.Records.length) want m':=by
     rw [hmem]
     constructor
     ·rintro ⟨s',r1,r2,r3⟩
      rw [q3,s9n r3]; exact r2
     ·intro h
      exact ⟨m'.2,q2,by rw [<- q3]; exact h,rfl⟩
    by_cases c:b64 a th (List.range a.Records.length) want m'
    ·rw [if_pos (by rw [decide_eq_true_eq,j2,hin]; exact c),b6d (by omega) (by simp) (by omega),bS9]
     exact .inr ⟨_,rfl,x,m'.2,rfl,hx,htd.trans (congrArg some q3),by rw [<- q3]; exact c,i1⟩
    ·rw [if_neg (by rw [decide_eq_true_eq,j2,hin]; exact c),hw]
     exact .inl ⟨(),rfl,skip fun m2 h=>by rw [htd] at h; cases h; exact c⟩) (fun _ i1=>by
   obtain ⟨x,q1,m',q2,q3⟩:=(u5b (m:=(t,s)) ht).1 hL
   exact absurd q3 (i1 x q1 m' q2)) 0 (Nat.zero_le _) (s:=()) (fun y hy=>by omega)
 obtain ⟨x,s',rfl,h3⟩:=h2
 exact ⟨x,s',h1,h3⟩
theorem u43 {rows:List (List r10_knot)} (hrows:∀ t,t<=tA a->∃ row,rows[t]?=some row/\r61 a th (List.range a.Records.length) want t row) :
  ∀ (d t:Nat) (s:Place × Nat) (out:List Int),t+d=tA a->Rch a th (List.range a.Records.length) t s->b64 a th (List.range a.Records.length) want (t,s)->out.length=t ->
   ∃ w,Lst (fun w=>AcD a th (List.range a.Records.length) want w (t,s)) w/\b0w (s85 a th rows) (out,s.1.State,s.1.Values.1,s.1.Values.2,((s.2:Nat):Int),(t:Int))=some (out++toI w)
 | 0,t,s,out,ht,hR,hL,ho=>by
  have hT:=s9b hs.ok
  have e:t=tA a:=by omega
  subst e
  obtain ⟨w,hw⟩:=hL
  have := ((u2y (m:=(tA a,s)) rfl).1 hw).1
  subst this
  refine ⟨[],⟨hw,fun _ _=>trivial⟩,b3d ?_⟩
  unfold s85
  rw [<- hT]
  simp only [Int.lt_irrefl,decide_false,fT9,if_false,toI,List.map_nil,List.append_nil]
 | d+1,t,s,out,ht,hR,hL,ho=>by
  have hT:=s9b hs.ok
  have h6:=tA6 hs
  obtain ⟨nrow,hn,hnrow⟩:=hrows (t+1) (by omega)
  obtain ⟨x,s',g1,g2,g3,g4,g5⟩:=u7e hs hth (by omega) hn hnrow hR hL (out:=out) (by omega)
  obtain ⟨w,w1,w2⟩:=u43 hrows d (t+1) s' (out++[(x:Int)]) (by omega) ⟨s,hR,x,g2,g3⟩ g4 (by simp; omega)
  refine ⟨x :: w,u8t (by show t<tA a; omega) g2 g3 w1 g5,?_⟩
  have hlt:(t:Int)<a.Ticks:=by omega
  have hstep:s85 a th rows (out,s.1.State,s.1.Values.1,s.1.Values.2,((s.2:Nat):Int),(t:Int))=some (.nx (out++[(x:Int)],s'.1.State,s'.1.Values.1,s'.1.Values.2,((s'.2:Nat):Int),((t+1:Nat):Int))):=by
   unfold s85
   simp only [hlt,decide_true,if_true,g1,bS9]
   unfold u12
   rw [b3t (by omega) (by omega)]; simp
  rw [w91 hstep,w2]
  simp [toI]
theorem u6g (hf:∀ n∈b3g a.Machine,n.size<=maxLen):(∃ w,Lst (K50 a th (fun _=>true) ftT) w/\(toI w).length=tA a/\s8x a th=some (toI w,0))\/((∀ w,¬ K50 a th (fun _=>true) ftT w)/\s8x a th=some ([],3)):=by
 have hn8:=hs.ok.n
 have hcong:∀ w,K50 a th (c49 (List.range a.Records.length)) ftT w ↔ K50 a th (fun _=>true) ftT w:=fun w=>u3c fun i hi=>u3w hi
 obtain ⟨W,rows,h1,h2,h3,h4⟩:=u5a (l:=List.range a.Records.length) hs hth (fun i hi=>List.mem_range.1 hi) (by rw [List.length_range]; exact hn8)
 obtain ⟨row,r1,_,r2⟩:=h4 0 (Nat.zero_le _)
 have hg:get rows 0=some row:=b1h (k:=0) r1
 unfold s8x
 have hck:y9g a th=some 0:=by rw [u24 hf (by omega),u27.2 ⟨hs.ok,hth⟩]
 rw [hck,bS9,if_neg (by simp),u35 (by omega),bS9,h2,bS9,hg,bS9]
 have hiff:∀ w,AcD a th (List.range a.Records.length) W w (0,zero,0) ↔ K50 a th (fun _=>true) ftT w:=fun w=>(u3b h1).trans (hcong w)
 by_cases hL:b64 a th (List.range a.Records.length) W (0,(zero,0))
 ·have hin:kn (zero,0)∈row:=(r2 _).2 ⟨(zero,0),rfl,hL,rfl⟩
  have hpos:=List.length_pos_of_mem hin
  rw [if_neg (by simp; intro h; rw [h] at hpos; simp at hpos)]
  obtain ⟨w,w1,w2⟩:=u43 hs hth h4 (tA a) 0 (zero,0) [] (by omega) rfl hL rfl
  have w2':b0w (s85 a th rows) ([],0,0,0,0,0)=some (toI w):=w2
  rw [w2',bS9]
  refine .inl ⟨w,u8u hiff w1,?_,rfl⟩
  rw [s95]; exact ((hiff w).1 w1.1).1
 ·have he:row=[]:=by
   cases row with
   | nil=>rfl
   | cons k ks =>
    obtain ⟨s,q1,q2,q3⟩:=(r2 k).1 (List.mem_cons_self ..)
    have : s=(zero,0):=q1
    subst this
    exact absurd q2 hL
  rw [if_pos (by simp [he])]
  exact .inr ⟨fun w hw=>hL ⟨w,(hiff w).2 hw⟩,rfl⟩
end
end
end Go.Nw.AM
