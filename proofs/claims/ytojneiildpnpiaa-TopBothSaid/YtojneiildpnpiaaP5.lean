/- Plain laws on the models. -/
import Derived.Test.YtojneiildpnpiaaEM
import Derived.Test.YtojneiildpnpiaaNwOwn
import Derived.Test.YtojneiildpnpiaaP4
import Derived.Test.YtojneiildpnpiaaP2
set_option linter.all false
namespace Go.Nw.EM
open Go.Nw.Tp6
set_option maxHeartbeats 4000000
variable {O:Orac} [MapsOk O]
theorem N04 {n:Int} (h1:0<=n) (h2:n<18446744073709551616):IntKind.u64.wrap n=n:=by
 unfold IntKind.wrap
 simp only [IntKind.bits,IntKind.signed,Bool.false_and]
 simp
 omega
theorem N1v {n:Nat} (h:n<4294967296):d05 .u64 (n:Int) 4294967295=n:=by
 have e0:d05 .u64 (n:Int) 4294967295=IntKind.u64.wrap (((BitVec.ofNat 64 n &&& BitVec.ofNat 64 4294967295:BitVec 64)).toNat:Nat):=by
  have e1:BitVec.ofInt 64 (n:Int)=BitVec.ofNat 64 n:=by simp
  have e2:d05 .u64 (n:Int) 4294967295=IntKind.u64.wrap (((BitVec.ofInt 64 n &&& BitVec.ofInt 64 4294967295:BitVec 64)).toNat:Nat):=rfl
  rw [e2,e1]; rfl
 have : ((BitVec.ofNat 64 n &&& BitVec.ofNat 64 4294967295:BitVec 64)).toNat=n:=by
  rw [BitVec.toNat_and,BitVec.toNat_ofNat,BitVec.toNat_ofNat]
  rw [show (4294967295:Nat) % 2 ^ 64=2 ^ 32 - 1 from rfl,Nat.and_two_pow_sub_one_eq_mod]
  omega
 rw [e0,this]
 exact N04 (by omega) (by omega)
theorem N2t {n:Nat} (h:n<4294967296):shr .u64 (n:Int) 32=some 0:=by
 rw [g29 (by decide)]
 unfold d45
 have : (2:Int) ^ (Nat.min (32:Int).toNat IntKind.u64.bits)=4294967296:=by decide
 rw [this,Int.fdiv_eq_ediv_of_nonneg _ (by decide)]
 congr 1
 omega
theorem mul_one {n:Nat} (h:n<4294967296):N1j 1 (n:Int)=some (0,(n:Int)):=by
 have a1:d05 .u64 (1:Int) 4294967295=1:=N1v (n:=1) (by omega)
 have s1:shr .u64 (1:Int) 32=some 0:=N2t (n:=1) (by omega)
 have s0:shr .u64 (0:Int) 32=some 0:=N2t (n:=0) (by omega)
 have a0:d05 .u64 (0:Int) 4294967295=0:=N1v (n:=0) (by omega)
 have w0:IntKind.u64.wrap 0=0:=N04 (by omega) (by omega)
 have wn:IntKind.u64.wrap (n:Int)=n:=N04 (by omega) (by omega)
 unfold N1j N1k
 simp only [s1,N2t h,a1,N1v h,bS9,Int.zero_mul,Int.mul_zero,Int.one_mul,w0,wn,Int.add_zero,Int.zero_add,s0,a0]
theorem N22 {n id lo' len l r:Nat} {rows:List (List AV)} {h:Heap} {k:AV->Heap->Prop} (ho:h.ob id=some (n,rows)) {lo hi:Option AV} (hl:b5d 0 lo=some l) (hr:b5i len hi=some r) (hle:l<=r) (hlr:l=0\/l<r) (hk:k (.rs id (lo'+l) (r - l)) h):@d2q n (.rs id lo' len) lo hi h ⟨k⟩:=by
 refine ⟨.rs id (lo'+l) (r - l),h,?_,hk⟩
 simp only [b2x,bS9,hl,hr,ho,hle,if_true,hlr,true_and]
theorem N51 {id lo len:Nat} {l rows:List Int} {h:Heap} {k:AV->Heap->Prop} (ho:h.ob id=some (1,List.map eI l)) (hwin:lo+len<=l.length) (h0:0<rows.length)
  (hk : k (I (Nat.min rows.length len:Nat)) (h.upd id (some (1,List.map eI (l.take lo++rows.take (Nat.min rows.length len)++l.drop (lo+Nat.min rows.length len)))))):@s3q O "#cp" [.rs id lo len,.fs 1 (List.map eI rows)] h ⟨k⟩:=by
 refine b79 (k:=.cp) rfl (r:=I (Nat.min rows.length len:Nat)) (h':=h.upd id (some (1,List.map eI (l.take lo++rows.take (Nat.min rows.length len)++l.drop (lo+Nat.min rows.length len))))) ?_ hk
 simp only [b2i,ho,bS9,N0f,List.length_map,h0,true_and,if_true,hwin]
 simp only [List.map_append,List.map_take,List.map_drop,and_self,if_true]
theorem N52 {id lo len lo2 len2:Nat} {l:List Int} {h:Heap} {k:AV->Heap->Prop} (ho:h.ob id=some (1,List.map eI l)) (hwin:lo+len<=l.length) (hwin2:lo2+len2<=l.length)
  (hk : k (I (Nat.min len2 len:Nat)) (h.upd id (some (1,List.map eI (l.take lo++((l.drop lo2).take len2).take (Nat.min len2 len)++l.drop (lo+Nat.min len2 len)))))):@s3q O "#cp" [.rs id lo len,.rs id lo2 len2] h ⟨k⟩:=by
 refine b79 (k:=.cp) rfl (r:=I (Nat.min len2 len:Nat)) (h':=h.upd id (some (1,List.map eI (l.take lo++((l.drop lo2).take len2).take (Nat.min len2 len)++l.drop (lo+Nat.min len2 len))))) ?_ hk
 have e:((List.drop lo2 (List.map eI l)).take len2).length=len2:=by simp; omega
 simp only [b2i,ho,bS9,N0f,List.length_map,hwin,hwin2,and_self,if_true,e]
 simp only [List.map_append,List.map_take,List.map_drop]
theorem N7j {l:List Int} {n k:Nat} {x:Int} (hl:l.length=n) (hk:∀ i,i<k->l[i]?=some x) (hkn:k<=n) {m:Nat} (hm:m=Nat.min k (n - k)):let l':=l.take k++((l.drop 0).take k).take m++l.drop (k+m); l'.length=n/\∀ i,i<k+m->l'[i]?=some x:=by
 have hm1:m<=k:=hm ▸ Nat.min_le_left _ _
 have hm2:m<=n - k:=hm ▸ Nat.min_le_right _ _
 refine ⟨by simp; omega,fun i hi=>?_⟩
 simp only [List.drop_zero]
 have e1:(l.take k++(l.take k).take m).length=k+m:=by simp; omega
 rw [List.getElem?_append_left (by omega)]
 by_cases hik:i<k
 ·rw [List.getElem?_append_left (by simp; omega),List.getElem?_take,if_pos hik]
  exact hk i hik
 ·rw [List.getElem?_append_right (by simp; omega)]
  have : (l.take k).length=k:=by simp; omega
  rw [this,List.getElem?_take,if_pos (by omega),List.getElem?_take,if_pos (by omega)]
  exact hk _ (by omega)
def N09 (O:Orac):Prop:=∀ (x:Int) (n:Nat),1<=n->n<1000000->FnW O "slices.Repeat[[]int,int]" [.fs 1 (List.map eI [x]),I n] 1 eI (List.replicate n x)
theorem N6d (hf:Has O "slices.Repeat[[]int,int]" x_slices_Repeat___int_int_) (km:N1a O):N09 O:=by
 intro x n hn hlt
 refine j04 hf rfl (b0a (b0c fun a _=>b1t a) (b0a (b0e _) b0j)) r24 ?_
 refine b1c (fun t h=>t 0 = .fs 1 (List.map eI [x])/\t 1=I n/\h=Heap.empty) ⟨rfl,rfl,rfl⟩ fun t h ⟨s0,s1,hh⟩=>?_
 subst hh
 simp only [x_slices_Repeat___int_int_]
 refine b0b fun K hK=>?_
 simp only [go_sem]
 refine hK _ _ ?_
 clear hK K
 refine b0i fun K0 hK0=>?_
 refine b0b fun K hK=>?_
 simp only [go_sem,s1]
 refine hK _ _ ?_
 clear hK K
 simp only [go_sem]
 rw [decide_eq_false (by omega)]
 simp only [go_sem]
 refine hK0 _ _ ?_
 clear hK0 K0
 refine b0b fun K hK=>?_
 have u1:IntKind.u64.wrap ((1:Nat):Int)=1:=N04 (by omega) (by omega)
 have un:IntKind.u64.wrap (n:Int)=n:=N04 (by omega) (by omega)
 simp only [go_sem,s0,s1,u1,un]
 refine b01 (km 1 (n:Int) (0,(n:Int)) (mul_one (by omega))) ?_
 simp only [go_sem]
 refine hK _ _ ?_
 clear hK K
 refine b0i fun K0 hK0=>?_
 refine b0b fun K hK=>?_
 simp only [go_sem]
 simp only [Int.lt_irrefl,decide_false,go_sem]
 rw [decide_eq_false (by omega)]
 refine hK _ _ ?_
 clear hK K
 simp only [go_sem]
 refine hK0 _ _ ?_
 clear hK0 K0
 refine b0b fun K hK=>?_
 have wn:IntKind.i64.wrap (n:Int)=n:=g3z (by omega) (by omega)
 simp only [go_sem,wn]
 refine d2k (f:=eI) (z:=0) (l:=List.replicate n 0) rfl (j8b (n:=(n:Int)) (by omega) (by omega) (by omega)) ?_
 simp only [go_sem]
 refine hK _ _ ?_
 clear hK K
 refine b0b fun K hK=>?_
 simp only [go_sem,s0]
 refine N51 (l:=List.replicate n 0) (rows:=[x]) (by simp only [go_sem]) (by simp) (by simp) ?_
 simp only [go_sem]
 refine hK _ _ ?_
 clear hK K
 refine b1c (fun t h=>∃ l:List Int,t 7 = .rs Heap.empty.nx 0 n/\t 8=I 1/\h.ob Heap.empty.nx=some (1,List.map eI l)/\l.length=n/\∀ i,i<1->l[i]?=some x) ?_ ?_
 ·have hmin:Nat.min 1 (List.replicate n (0:Int)).length=1:=by rw [List.length_replicate]; exact Nat.min_eq_left hn
  refine ⟨[x]++List.drop 1 (List.replicate n 0),by simp only [go_sem,List.length_replicate],?_,?_,by simp; omega,fun i hi=>?_⟩
  ·simp only [go_sem,hmin]; rfl
  ·simp only [go_sem,hmin]
  ·have : i=0:=by omega
   subst this; rfl
 clear s0 s1
 rintro t h ⟨l0,s7,s8,ob0,hl0,hx0⟩
 refine b0i fun K0 hK0=>?_
 rw [b0u]
 refine c2k (fun q t1 h1=>∃ (k:Nat) (l:List Int),k+q=n/\1<=k/\t1 7 = .rs Heap.empty.nx 0 n/\t1 8=I k/\h1.ob Heap.empty.nx=some (1,List.map eI l)/\l.length=n/\∀ i,i<k->l[i]?=some x) (n - 1) ?_ ?_
 ·exact ⟨1,l0,by omega,Nat.le_refl _,s7,s8,ob0,hl0,hx0⟩
 rintro q t1 h1 ⟨k,l,hkq,hk1,r7,r8,ob,hl,hx⟩
 simp only [N3w]
 refine b0i fun K1 hK1=>?_
 refine b0b fun K hK=>?_
 simp only [go_sem,r7,r8]
 refine hK _ _ ?_
 clear hK K
 simp only [go_sem]
 refine b0k (fun hc=>?_) (fun hc=>?_)
 ·simp only [b0s,b0f]
  refine hK1 _ _ ?_
  clear hK1 K1
  have hkn:k<n:=by have:=of_decide_eq_true hc; omega
  rw [b0u]
  refine b03 fun K hK=>?_
  simp only [go_sem,r7,r8]
  refine N22 (l:=k) (r:=n) ob (by simp [b5d]) (by simp [b5i]) (by omega) (by omega) ?_
  simp only [go_sem,r7,r8]
  refine N22 (l:=0) (r:=k) ob (by simp [b5d]) (by simp [b5i]; omega) (by omega) (by omega) ?_
  simp only [go_sem]
  have hm:∃ m,m=Nat.min k (n - k):=⟨_,rfl⟩
  obtain ⟨m,hm⟩:=hm
  have hm1:m<=n - k:=hm ▸ Nat.min_le_right _ _
  have hm2:1<=m:=by
   rw [hm]
   exact Nat.le_min.2 ⟨hk1,by omega⟩
  obtain ⟨e1,e2⟩:=N7j hl hx (by omega) hm
  refine N52 (l:=l) (lo:=k) (len:=n - k) (lo2:=0) (len2:=k - 0) ob (by omega) (by omega) ?_
  rw [Nat.sub_zero,<- hm]
  have w1:IntKind.i64.wrap ((k:Int)+(m:Int))=((k+m:Nat):Int):=by rw [g3z (by omega) (by omega)]; omega
  simp only [go_sem,w1]
  refine hK _ _ ?_
  clear hK K
  simp only [b02,b0f]
  exact ⟨n - (k+m),by omega,k+m,_,by omega,by omega,by simp only [go_sem,r7],by simp only [go_sem],by simp only [go_sem],e1,e2⟩
 ·simp only [b09,b1b,b1a]
  have hkn:¬ (k:Int)<n:=of_decide_eq_false hc
  have hkn:k=n:=by omega
  subst hkn
  refine hK0 _ _ ?_
  clear hK0 K0 hK1 K1
  refine b0b fun K hK=>?_
  simp only [go_sem,r7]
  refine hK _ _ ?_
  clear hK K
  have el:l=List.replicate k x:=by
   apply List.ext_getElem?
   intro i
   rw [List.getElem?_replicate]
   split
   ·exact hx i (by assumption)
   ·exact List.getElem?_eq_none (by omega)
  subst el
  simp only [b0x,b1p,b0y]
  exact g9v (by simp only [go_sem,List.length_replicate]) ob r24
end Go.Nw.EM
namespace Go.Nw.EM
open Go.Nw.Tp6 Go.Nw.Fl
set_option maxHeartbeats 4000000
variable {O:Orac} [MapsOk O]
structure Old (h0 h:Heap):Prop where
 nx : h0.nx<=h.nx
 ob : ∀ j,j<h0.nx->h.ob j=h0.ob j
 nm : b67 h0->b67 h
theorem Old.refl (h:Heap):Old h h:=⟨Nat.le_refl _,fun _ _=>rfl,fun h=>h⟩
theorem Old.trans {h0 h1 h2:Heap} (a:Old h0 h1) (b:Old h1 h2):Old h0 h2:=⟨Nat.le_trans a.nx b.nx,fun j hj=>(b.ob j (Nat.lt_of_lt_of_le hj a.nx)).trans (a.ob j hj),fun h=>b.nm (a.nm h)⟩
theorem Old.new {h0 h:Heap} (a:Old h0 h) {n:Nat} {rows:List (List AV)} (hn:n≠0):Old h0 (h.new (n,rows)):=⟨by rw [l0m]; simp only [nxs]; have:=a.nx; omega,fun j hj=>by rw [d4e (by have:=a.nx; omega)]; exact a.ob j hj,fun h=>K5u (a.nm h) hn⟩
theorem Old.upd {h0 h:Heap} (a:Old h0 h) {id n:Nat} {rows:List (List AV)} (hi:h0.nx<=id) (hn:n≠0):Old h0 (h.upd id (some (n,rows))):=⟨by rw [H1t]; exact a.nx,fun j hj=>by rw [g3s (by omega)]; exact a.ob j hj,fun h=>K6g (a.nm h) hn⟩
theorem Old.del {h0 h:Heap} (a:Old h0 h) {id:Nat} (hi:h0.nx<=id):Old h0 (h.upd id none):=⟨by rw [H1t]; exact a.nx,fun j hj=>by rw [g3s (by omega)]; exact a.ob j hj,fun h=>K8t (a.nm h)⟩
theorem Old.app {h0 h:Heap} (a:Old h0 h) {v:AV} {n:Nat} {rows:List (List AV)} (hv:∀ j,¬ b07 v j->h0.nx<=j) (hn:n≠0):Old h0 (b5y h v (n,rows)):=by
 unfold b5y
 split
 ·rename_i id lo len
  exact (a.del (hv id (by simp [b07]))).new hn
 ·exact a.new hn
theorem Old.neth {h0 h:Heap} (a:Old h0 h) {b:Nat} {c:NetC} {vE:AV} {hs:List AV} {E:Net} (N:NetH h0 b c vE hs E):NetH h b c vE hs E:=N2g N (a.ob b N.lt) (fun j _ hl=>a.ob j hl) a.nx
def nI (q:List Nat):List Int:=q.map fun n:Nat=>(n:Int)
theorem N55 {id len:Nat} {x:Int} {q:List Int} {h:Heap} {k:AV->Heap->Prop} (ho:h.ob id=some (1,List.map eI (x :: q))) (hl:len=q.length+1) (hk:k (.rs h.nx 0 q.length) ((h.upd id none).new (1,List.map eI q))):@s3q O "#tl" [.rs id 0 len,I 1,I 1] h ⟨k⟩:=by
 subst hl
 refine b79 (k:=.tl) rfl (r:=.rs h.nx 0 q.length) (h':=(h.upd id none).new (1,List.map eI q)) ?_ hk
 simp [b2i,ho,b5d,List.take_of_length_le]
structure LevOut (h0:Heap) (E:Net) (bg:Nat) (r:AV) (h:Heap):Prop where
 ex : ∃ id L,r = .rs id 0 E.length/\h.ob id=some (1,List.map eI L)/\h0.nx<=id/\id<h.nx/\Lev E bg L
 old : Old h0 h
theorem N2i {E:Net} {u:Nat} {r:List Arc} (h:E[u]?=some r) (i:Nat):at_ E u i=r[i]?:=by
 unfold at_; rw [h]; rfl
structure LvS (h0 h:Heap) (t:Slots) (b iL:Nat) (vq:AV) (L:List Int) (q:List Nat):Prop where
 s0 : t 0 = .rp b 0 0
 s3 : t 3 = .rs iL 0 L.length
 s4 : t 4=vq
 ob : h.ob iL=some (1,List.map eI L)
 lt : iL<h.nx
 ge : h0.nx<=iL
 old : Old h0 h
 own : b2a h vq 1 (List.map eI (nI q))
 nvq : b07 vq iL
 gvq : ∀ j,¬ b07 vq j->h0.nx<=j
theorem N6h (hf:Has O "(*newel/ways.net).levels" x___ways_net__levels) (kr:N09 O) {h0:Heap} {b:Nat} {c:NetC} {vE:AV} {hs:List AV} {E:Net} (N:NetH h0 b c vE hs E) (hb:c.bg<E.length) (hl:E.length<1000000) (hr:∀ u,(b36 E u).length<1000000)
  (hto : ∀ u i e,at_ E u i=some e->e.to<E.length):b6e O "(*newel/ways.net).levels" [.rp b 0 0] h0 (LevOut h0 E c.bg):=by
 refine d8g hf rfl ?_
 have box:=N.box
 have lb:=N.lt
 refine b1c (fun t h=>t 0 = .rp b 0 0/\h=h0) ⟨rfl,rfl⟩ fun t h ⟨s0,hh⟩=>?_
 subst hh
 simp only [x___ways_net__levels]
 refine b0b fun K hK=>?_
 simp only [go_sem]
 refine hK _ _ ?_
 clear hK K
 obtain ⟨iq,rfl,oq,lq⟩:=r97 N.rr (l19 (K37 hb))
 refine b2p (fun t h1=>∃ iL,t 0 = .rp b 0 0/\t 3 = .rs iL 0 E.length/\h1.ob iL=some (1,List.map eI (List.replicate E.length (-1)))/\h.nx<=iL/\iL<h1.nx/\Old h h1) (fun K hK=>?_) ?_
 ·simp only [go_sem,s0,box,lb,NetC.cells,d4e lb,d4e lq]
  refine j4w (.cons (r8x (f:=eI) (l:=[-1]) (b2v (by simp only [go_sem,List.map_cons,List.map_nil]) rfl (by simp only [go_sem,nxs]; omega)) N5c b8p) (.cons (.refl _ (b0e _)) .nil)) (kr (-1) E.length (by omega) hl) ?_
  simp only [go_sem]
  refine hK _ _ ⟨nxs h.nx,by simp only [go_sem,s0],by simp only [go_sem,List.length_replicate],by simp only [go_sem],by simp only [nxs]; omega,by simp only [go_sem,nxs]; omega,((Old.refl h).new (by decide)).new (by decide)⟩
 clear s0
 rintro t h1 ⟨iL,s0,s3,obL,geL,ltL,old1⟩
 refine b2p (fun t h2=>t 0 = .rp b 0 0/\t 3 = .rs iL 0 E.length/\h2.ob iL=some (1,List.map eI ((List.replicate E.length (-1)).set c.bg 0))/\iL<h2.nx/\Old h h2) (fun K hK=>?_) ?_
 ·have hbL:get (List.replicate E.length (-1:Int)) (c.bg:Int)=some (-1):=l19 (by rw [List.getElem?_replicate,if_pos hb])
  have hbi:(c.bg:Int)<(E.length:Int):=by omega
  have bx1:=(old1.ob b lb).trans box
  simp only [go_sem,s0,s3,bx1,NetC.cells,obL,K33,hbi,d8j,b3n hbL]
  refine hK _ _ ⟨by simp only [go_sem,s0],by simp only [go_sem,s3],by simp only [go_sem]; rw [Int.toNat_natCast],by simp only [go_sem,ltL],old1.upd geL (by decide)⟩
 clear s0 s3 obL ltL old1 h1
 rintro t h1 ⟨s0,s3,obL,ltL,old1⟩
 refine b2p (fun t h2=>∃ vq,t 0 = .rp b 0 0/\t 3 = .rs iL 0 E.length/\t 4=vq/\h2.ob iL=some (1,List.map eI ((List.replicate E.length (-1)).set c.bg 0))/\iL<h2.nx/\Old h h2/\b2a h2 vq 1 (List.map eI (nI [c.bg]))/\b07 vq iL/\∀ j,¬ b07 vq j->h.nx<=j) (fun K hK=>?_) ?_
 ·have bx1:=(old1.ob b lb).trans box
  simp only [go_sem,s0,s3,bx1,NetC.cells]
  refine hK _ _ ⟨.rs h1.nx 0 1,by simp only [go_sem,s0],by simp only [go_sem,s3],by simp only [go_sem],by simp only [go_sem,d4e ltL,obL],by simp only [go_sem,nxs]; omega,old1.new (by decide),b2v (by simp only [go_sem,nI,List.map_cons,List.map_nil]) rfl (by simp only [go_sem,nxs]; omega),b1y (by omega),E2j old1.nx⟩
 clear s0 s3 obL ltL old1 h1
 rintro t h1 ⟨vq,s0,s3,s4,obL,ltL,old1,own1,nvq,gvq⟩
 refine b0i fun KE hKE=>?_
 rw [b0u]
 refine c2k (fun m t1 h2=>∃ vq L q,LvS h h2 t1 b iL vq L q/\BF E c.bg L q/\m=2 * (E.length - J57 L)+q.length) (2 * (E.length - J57 ((List.replicate E.length (-1)).set c.bg 0))+1) ?_ ?_
 ·exact ⟨vq,_,[c.bg],⟨s0,by rw [s3]; simp,s4,obL,ltL,geL,old1,own1,nvq,gvq⟩,N4g hb,rfl⟩
 clear s0 s3 s4 obL ltL old1 own1 nvq gvq
 rintro m t1 h2 ⟨vq,L,q,V,bf,rfl⟩
 obtain ⟨L0,hL0⟩:∃ L0,L0=L:=⟨_,rfl⟩
 simp only [N3u]
 have hLl:=bf.len
 have hcl:=C00 L
 refine b0i fun K1 hK1=>?_
 refine b0b fun K hK=>?_
 simp only [go_sem,V.s4,b5r vq,l3r V.own]
 refine hK _ _ ?_
 clear hK K
 simp only [go_sem]
 refine b0k (fun hc=>?_) (fun hc=>?_)
 ·simp only [b0s,b0f]
  refine hK1 _ _ ?_
  clear hK1 K1
  obtain ⟨a,q,rfl⟩:∃ a q',q=a :: q':=by
   cases q with
   | nil=>simp [nI] at hc
   | cons a q'=>exact ⟨a,q',rfl⟩
  obtain ⟨iv,rfl,obv,ltv⟩:∃ iv,vq = .rs iv 0 (q.length+1)/\h2.ob iv=some (1,List.map eI (nI (a :: q)))/\iv<h2.nx:=by
   rcases V.own with ⟨_,h1⟩|⟨iv,h1,h3,h4⟩
   ·simp [nI] at h1
   ·exact ⟨iv,by rw [h1]; simp [nI],h3,h4⟩
  have gev:=N5e V.gvq
  have hnv:¬ iv=iL:=V.nvq
  have halt:a<E.length:=by rw [<- hLl]; exact N6v (bf.qq a List.mem_cons_self)
  obtain ⟨w,hw,ow⟩:=r96 N.rr (l19 (K37 halt))
  have haE:(a:Int)<(E.length:Int):=by omega
  have own0:=V.own
  rw [b0u]
  refine b2p (fun t h3=>h3=h2/\t 0 = .rp b 0 0/\t 3 = .rs iL 0 E.length/\t 4 = .rs iv 0 (q.length+1)/\t 5=I a) (fun K hK=>?_) ?_
  ·have hg:get (nI (a :: q)) 0=some (a:Int):=rfl
   have h01:(0:Int)<((q.length+1:Nat):Int):=by omega
   simp only [go_sem,V.s4,obv,Int.le_refl,h01,d8j,b3n hg]
   refine hK _ _ ⟨rfl,by simp only [go_sem,V.s0],by simp only [go_sem,V.s3,hLl],by simp only [go_sem,V.s4],by simp only [go_sem]⟩
  rintro t3 h3 ⟨rfl,r0,r3,r4,r5⟩
  refine b2p (fun t h4=>t 0 = .rp b 0 0/\t 3 = .rs iL 0 E.length/\t 5=I a/\∃ vq,t 4=vq/\h4.ob iL=some (1,List.map eI L)/\iL<h4.nx/\Old h h4/\b2a h4 vq 1 (List.map eI (nI q))/\b07 vq iL/\∀ j,¬ b07 vq j->h.nx<=j) (fun K hK=>?_) ?_
  ·simp only [go_sem,r4]
   refine N55 (q:=nI q) obv (by simp [nI]) ?_
   simp only [go_sem]
   have hnx:=V.old.nx
   have hlt:=V.lt
   refine hK _ _ ⟨by simp only [go_sem,r0],by simp only [go_sem,r3],by simp only [go_sem,r5],.rs h3.nx 0 (nI q).length,by simp only [go_sem],?_,by simp only [go_sem,nxs]; omega,(V.old.del gev).new (by decide),b2v (by exact d4d rfl) (by simp) (by simp only [go_sem,nxs]; omega),b1y (by omega),E2j hnx⟩
   rw [d4e (by rw [H1t]; exact hlt),g3s (fun e=>hnv e.symm)]
   exact V.ob
  have obL:=V.ob
  have geL:=V.ge
  have bfi:=N4e bf
  have hql:(a :: q).length=q.length+1:=rfl
  clear r0 r3 r4 r5 V own0 obv ltv
  rintro t4 h4 ⟨r0,r3,r5,vq,r4,obL4,ltL4,old4,own4,nvq4,gvq4⟩
  have N4:=old4.neth N
  have box4:=N4.box
  have oq4:h4.ob iq=some (1,List.map eW hs):=(old4.ob iq lq).trans oq
  refine b2p (fun t h5=>h5=h4/\t 0 = .rp b 0 0/\t 3 = .rs iL 0 E.length/\t 4=vq/\t 5=I a/\t 40=w/\t 41=I (b36 E a).length/\t 42=I 0) (fun K hK=>?_) ?_
  ·simp only [go_sem,r0,r5,box4,NetC.cells,oq4,K33,haE,d8j,b3n hw,eW,b5r w,l3r ow]
   exact hK _ _ ⟨rfl,by simp only [go_sem,r0],by simp only [go_sem,r3],by simp only [go_sem,r4],by simp only [go_sem,r5],by simp only [go_sem],by simp only [go_sem],by simp only [go_sem]⟩
  clear r0 r3 r4 r5
  rintro t5 h5 ⟨rfl,r0,r3,r4,r5,r40,r41,r42⟩
  rw [b0u]
  have hra:=hr a
  refine c2k (fun m t6 h6=>∃ (i:Nat) (vq:AV) (L:List Int) (q':List Nat),i+m=(b36 E a).length/\LvS h h6 t6 b iL vq L q'/\BFi E c.bg a i L q'/\t6 5=I a/\t6 40=w/\t6 41=I (b36 E a).length/\t6 42=I i/\2 * (E.length - J57 L)+q'.length+1<=2 * (E.length - J57 L0)+(a :: q).length) (b36 E a).length ?_ ?_
  ·exact ⟨0,vq,L,q,by omega,⟨r0,by rw [hLl]; exact r3,r4,obL4,ltL4,geL,old4,own4,nvq4,gvq4⟩,bfi,r5,r40,r41,r42,by rw [hL0]; simp only [List.length_cons]; omega⟩
  clear r0 r3 r4 r5 r40 r41 r42 obL4 ltL4 own4 nvq4 gvq4 bfi bf hLl hcl obL hql
  rintro m t6 h6 ⟨i,vq,L,q',him,V,bfi,r5,r40,r41,r42,hm⟩
  have hLl:=bfi.len
  have hcl:=C00 L
  simp only [N3t]
  refine b0b fun K hK=>?_
  simp only [go_sem,r42,r41]
  refine hK _ _ ?_
  clear hK K
  refine b0i fun K2 hK2=>?_
  simp only [go_sem]
  refine b0k (fun hc=>?_) (fun hc=>?_)
  ·simp only [b0s,b0f]
   refine hK2 _ _ ?_
   clear hK2 K2
   have hi:i<(b36 E a).length:=by have:=of_decide_eq_true hc; omega
   obtain ⟨e,he⟩:∃ e,(b36 E a)[i]?=some e:=⟨_,gG9 hi⟩
   have hat:at_ E a i=some e:=by rw [N2i (K37 halt)]; exact he
   have hte:=hto a i e hat
   have ow6:=b3x ow (h':=h6) (fun j hj hl=>V.old.ob j hl) V.old.nx
   obtain ⟨iw,rfl,oiw,liw⟩:=l3q ow6 (l19 he)
   have hiw:iw<h.nx:=r9y ow (by simp [b07])
   have hiE:(i:Int)<((b36 E a).length:Int):=by omega
   refine b0i fun K3 hK3=>?_
   rw [b0u]
   refine b2p (fun t h7=>∃ i7,LvS h h7 t b iL vq L q'/\t 5=I a/\t 40 = .rs iw 0 (b36 E a).length/\t 41=I (b36 E a).length/\t 42=I i/\t 7 = .rp i7 0 0/\h7.ob i7=some (7,[eE e])/\¬ i7=iL/\b07 vq i7/\h.nx<=i7/\i7<h7.nx) (fun K hK=>?_) ?_
   ·simp only [go_sem,r40,r42,oiw,K33,hiE,d8j,b3n (l19 he),eE]
    have l6:=V.lt
    have g6:=V.old.nx
    refine hK _ _ ⟨h6.nx,⟨by simp only [go_sem,V.s0],by simp only [go_sem,V.s3],by simp only [go_sem,V.s4],?_,by simp only [go_sem,nxs]; omega,V.ge,(V.old.new (by decide)).upd g6 (by decide),?_,V.nvq,V.gvq⟩,by simp only [go_sem,r5],by simp only [go_sem,r40],by simp only [go_sem,r41],by simp only [go_sem,r42],by simp only [go_sem],by simp only [go_sem,eE],by omega,b1v V.own (Nat.le_refl _),g6,by simp only [go_sem,nxs]; omega⟩
    ·rw [g3s (by omega),d4e l6]; exact V.ob
    ·exact b3x V.own (fun j hj hl=>by rw [g3s (by omega),d4e hl]) (by simp only [go_sem,nxs]; omega)
   clear r5 r40 r41 r42 V oiw ow6
   rintro t7 h7 ⟨i7,V,r5,r40,r41,r42,r7,ob7,n7L,nv7,ge7,lt7⟩
   have hteL:(e.to:Int)<(L.length:Int):=by rw [hLl]; omega
   have hgL:get L (e.to:Int)=some (lv L e.to):=l19 (N0w (by rw [hLl]; exact hte))
   refine b2p (fun t h8=>h8=h7/\LvS h h8 t b iL vq L q'/\t 5=I a/\t 40 = .rs iw 0 (b36 E a).length/\t 41=I (b36 E a).length/\t 42=I i/\t 7 = .rp i7 0 0/\t 56=B (decide (0<e.room) && decide (lv L e.to<0))) (fun K hK=>?_) ?_
   ·simp only [go_sem,r7,ob7,eE]
    refine b0k (fun hc1=>?_) (fun hc1=>?_)
    ·simp only [go_sem,V.s3,r7,ob7,eE,V.ob,K33,hteL,d8j,b3n hgL]
     refine hK _ _ ⟨rfl,⟨by simp only [go_sem,V.s0],by simp only [go_sem,V.s3],by simp only [go_sem,V.s4],V.ob,V.lt,V.ge,V.old,V.own,V.nvq,V.gvq⟩,by simp only [go_sem,r5],by simp only [go_sem,r40],by simp only [go_sem,r41],by simp only [go_sem,r42],by simp only [go_sem,r7],by simp only [go_sem,hc1,Bool.true_and]⟩
    ·simp only [go_sem]
     refine hK _ _ ⟨rfl,⟨by simp only [go_sem,V.s0],by simp only [go_sem,V.s3],by simp only [go_sem,V.s4],V.ob,V.lt,V.ge,V.old,V.own,V.nvq,V.gvq⟩,by simp only [go_sem,r5],by simp only [go_sem,r40],by simp only [go_sem,r41],by simp only [go_sem,r42],by simp only [go_sem,r7],by simp only [go_sem,hc1,Bool.false_and]⟩
   clear r5 r40 r41 r42 r7 V
   rintro t8 h8 ⟨rfl,V,r5,r40,r41,r42,r7,r56⟩
   simp only [go_sem,r56]
   refine b0k (fun hc2=>?_) (fun hc2=>?_)
   ·simp only [Bool.and_eq_true,decide_eq_true_eq] at hc2
    have haL:(a:Int)<(L.length:Int):=by rw [hLl]; omega
    have hgA:get L (a:Int)=some (lv L a):=l19 (N0w (by rw [hLl]; exact halt))
    have hcn:=bfi.cnt a
    have ha0:=bfi.a0
    have wl:IntKind.i64.wrap (lv L a+1)=lv L a+1:=g3z (by omega) (by omega)
    have nLb:¬ iL=i7:=fun e=>n7L e.symm
    refine b2p (fun t h9=>LvS h h9 t b iL vq (L.set e.to (lv L a+1)) q'/\t 5=I a/\t 40 = .rs iw 0 (b36 E a).length/\t 41=I (b36 E a).length/\t 42=I i/\t 7 = .rp i7 0 0/\h9.ob i7=some (7,[eE e])/\i7<h9.nx) (fun K hK=>?_) ?_
    ·simp only [go_sem,V.s3,r7,ob7,eE,r5,V.ob,K33,hteL,haL,d8j,b3n hgL,b3n hgA,wl]
     have hvL:=V.nvq
     refine hK _ _ ⟨⟨by simp only [go_sem,V.s0],by simp only [go_sem,V.s3,List.length_set],by simp only [go_sem,V.s4],by simp only [go_sem]; rw [Int.toNat_natCast],by simp only [go_sem]; exact V.lt,V.ge,V.old.upd V.ge (by decide),b3x V.own (fun j hj hl=>g3s (fun e=>hj (by subst e; exact hvL))) (Nat.le_refl _),V.nvq,V.gvq⟩,by simp only [go_sem,r5],by simp only [go_sem,r40],by simp only [go_sem,r41],by simp only [go_sem,r42],by simp only [go_sem,r7],by rw [g3s n7L]; exact ob7,by simp only [go_sem]; exact lt7⟩
    clear r5 r40 r41 r42 r7 V ob7 lt7
    rintro t9 h9 ⟨V,r5,r40,r41,r42,r7,ob7,lt7⟩
    have bfn:=N4d bfi hat hc2.1 hc2.2 hte
    have hql:=bfi.ql
    have hcs:J57 (L.set e.to (lv L a+1))=J57 L+1:=g9b (by rw [hLl]; exact hte) hc2.2 (by omega)
    have hcl2:=C00 (L.set e.to (lv L a+1))
    rw [List.length_set] at hcl2
    have w42:IntKind.i64.wrap ((i:Int)+1)=((i+1:Nat):Int):=by rw [g3z (by omega) (by omega)]; omega
    generalize hL2:L.set e.to (lv L a+1)=L2 at *
    refine b03 fun K hK=>?_
    simp only [go_sem,V.s4,r7,ob7,eE,b5r vq]
    refine b3a (f:=eI) (l:=nI q') (m:=[(e.to:Int)]) (r:=nI (q'++[e.to])) ?_ ?_ ?_ ?_ ?_ ?_
    ·exact b3x V.own (fun j hj hl=>by rw [d4e hl]) (by simp only [go_sem,nxs]; omega)
    ·exact b4t (by simp only [go_sem,List.map_cons,List.map_nil,eI]) (by simp)
    ·exact b4r (b1v V.own (Nat.le_refl _))
    ·exact fun _=>by simp
    ·have : nI (q'++[e.to])=nI q'++[(e.to:Int)]:=by simp [nI]
     rw [this]
     exact b9k (by simp only [nI,List.length_map,List.length_cons,List.length_nil]; omega)
    have l9:=V.lt
    have g9:=V.old.nx
    simp only [go_sem]
    refine hK _ _ ?_
    clear hK K
    simp only [b02,b0f]
    refine hK3 _ _ ?_
    clear hK3 K3
    refine b03 fun K hK=>?_
    simp only [go_sem,r42,w42]
    refine hK _ _ ?_
    clear hK K
    simp only [b0f]
    refine ⟨m - 1,by omega,i+1,.rs (nxs h9.nx) 0 (nI (q'++[e.to])).length,L2,q'++[e.to],by omega,⟨by simp only [go_sem,V.s0],by simp only [go_sem,V.s3],by simp only [go_sem],?_,by simp only [go_sem,nxs]; omega,V.ge,(V.old.new (by decide)).app (fun j hj=>V.gvq j hj) (by decide),b2v (g53 (by simp only [go_sem])) (by simp) (by simp only [go_sem,nxs]; omega),b1y (by simp only [nxs]; omega),E2j (by simp only [nxs]; omega)⟩,bfn,by simp only [go_sem,r5],by simp only [go_sem,r40],by simp only [go_sem,r41],by simp only [go_sem],?_⟩
    ·rw [g55 V.nvq (by simp only [go_sem,nxs]; omega),d4e l9]; exact V.ob
    ·rw [hcs,List.length_append,List.length_singleton]
     omega
   ·simp only [b0s,b02,b0f]
    refine hK3 _ _ ?_
    clear hK3 K3
    have w42:IntKind.i64.wrap ((i:Int)+1)=((i+1:Nat):Int):=by rw [g3z (by omega) (by omega)]; omega
    refine b03 fun K hK=>?_
    simp only [go_sem,r42,w42]
    refine hK _ _ ?_
    clear hK K
    simp only [b0f]
    refine ⟨m - 1,by omega,i+1,vq,L,q',by omega,⟨by simp only [go_sem,V.s0],by simp only [go_sem,V.s3],by simp only [go_sem,V.s4],V.ob,V.lt,V.ge,V.old,V.own,V.nvq,V.gvq⟩,N4f bfi hat (fun hp=>?_),by simp only [go_sem,r5],by simp only [go_sem,r40],by simp only [go_sem,r41],by simp only [go_sem],hm⟩
    simp only [hp,decide_true,Bool.true_and,decide_eq_false_iff_not] at hc2
    omega
  ·simp only [b09,b1b,b1a,b02,b0f]
   have hi:¬ (i:Int)<(b36 E a).length:=of_decide_eq_false hc
   refine ⟨2 * (E.length - J57 L)+q'.length,by rw [<- hL0]; omega,vq,L,q',⟨by simp only [go_sem,V.s0],by simp only [go_sem,V.s3],by simp only [go_sem,V.s4],V.ob,V.lt,V.ge,V.old,V.own,V.nvq,V.gvq⟩,N4b bfi (fun j e hj=>?_),rfl⟩
   rw [N2i (K37 halt)] at hj
   have := (gS9.1 hj).1
   omega
 ·simp only [b09,b1b,b1a]
  refine hKE _ _ ?_
  clear hKE KE hK1 K1
  have hq:q=[]:=by
   cases q with
   | nil=>rfl
   | cons a q=>simp [nI] at hc
  subst hq
  refine b0b fun K hK=>?_
  simp only [go_sem,V.s3]
  refine hK _ _ ?_
  clear hK K
  simp only [b0x,b1p,l4j]
  exact y65 (v:=.rs iL 0 L.length) (by simp only [go_sem]) ⟨⟨iL,L,by rw [hLl],V.ob,V.ge,V.lt,N4c bf⟩,V.old⟩
end Go.Nw.EM
namespace Go.Nw.EM
open Go.Nw.Tp6 Go.Nw.Fl
set_option maxHeartbeats 4000000
variable {O:Orac} [MapsOk O]
theorem N3p {l:List Arc} {n a0 a2:Nat} {x m1 m2 m3 m4:Int}:(List.map eE l).set n [I a0,I x,I a2,I m1,I m2,I m3,I m4]=List.map eE (l.set n ⟨a0,x,a2,(m1,m2,m3,m4)⟩):=by rw [List.map_set]; rfl
structure PSt (h:Heap) (b:Nat) (c:NetC) (vE:AV) (hs:List AV) (E:Net) (iN:Nat) (N:List Int) (iL:Nat) (L:List Int):Prop where
 net : NetH h b c vE hs E
 obL : h.ob iL=some (1,List.map eI L)
 obN : h.ob iN=some (1,List.map eI N)
 ltL : iL<h.nx
 ltN : iN<h.nx
 rnL : s8i vE hs iL
 rnN : s8i vE hs iN
 neLN : ¬ iL=iN
 neLb : ¬ iL=b
 neNb : ¬ iN=b
 lenL : L.length=E.length
 lenN : N.length=E.length
structure PFr (h0:Heap) (vE:AV) (hs:List AV) (iN:Nat) (h:Heap):Prop where
 nx : h0.nx<=h.nx
 ob : ∀ j,j<h0.nx->s8i vE hs j->¬ j=iN->h.ob j=h0.ob j
 nm : b67 h0->b67 h
theorem PFr.refl (h:Heap) (vE:AV) (hs:List AV) (iN:Nat):PFr h vE hs iN h:=⟨Nat.le_refl _,fun _ _ _ _=>rfl,fun h=>h⟩
theorem PFr.trans {h0 h1 h2:Heap} {vE:AV} {hs:List AV} {iN:Nat} (a:PFr h0 vE hs iN h1) (c:PFr h1 vE hs iN h2):PFr h0 vE hs iN h2 :=
 ⟨Nat.le_trans a.nx c.nx,fun j hl hj hn=>(c.ob j (Nat.lt_of_lt_of_le hl a.nx) hj hn).trans (a.ob j hl hj hn),fun h=>c.nm (a.nm h)⟩
section
variable {h:Heap} {b:Nat} {c:NetC} {vE:AV} {hs:List AV} {E:Net} {iN:Nat} {N:List Int} {iL:Nat} {L:List Int}
theorem N3j (P:PSt h b c vE hs E iN N iL L) {N':List Int} (hl:N'.length=N.length):PSt (h.upd iN (some (1,List.map eI N'))) b c vE hs E iN N' iL L/\PFr h vE hs iN (h.upd iN (some (1,List.map eI N'))) :=
 ⟨⟨N2g P.net (g3s fun e=>P.neNb e.symm) (fun j hj _=>g3s fun e=>hj (by rw [e]; exact P.rnN)) (Nat.le_refl _),(g3s P.neLN).trans P.obL,c53 rfl,P.ltL,P.ltN,P.rnL,P.rnN,P.neLN,P.neLb,P.neNb,P.lenL,hl.trans P.lenN⟩,
  Nat.le_refl _,fun j _ _ hn=>g3s hn,fun hm=>K6g hm (by decide)⟩
theorem N0y (N:NetH h b c vE hs E) {u i:Nat} {e:Arc} (he:at_ E u i=some e):∃ ir,get hs (u:Int)=some (.rs ir 0 (b36 E u).length)/\h.ob ir=some (7,List.map eE (b36 E u))/\ir<h.nx/\¬ ir=b/\(b36 E u)[i]?=some e/\E[u]?=some (b36 E u)/\¬ s8i vE hs ir:=by
 obtain ⟨r,h1,h2⟩:=N0e he
 have hr:b36 E u=r:=by unfold b36; rw [List.getD_eq_getElem?_getD,h1]; rfl
 rw [hr]
 obtain ⟨w,hw,ow⟩:=r96 N.rr (l19 h1)
 obtain ⟨ir,rfl,g1,g2⟩:=l3q ow (l19 h2)
 have hn:¬ s8i vE hs ir:=fun hh=>by
  have := r7k hh hw
  exact this rfl
 exact ⟨ir,hw,g1,g2,fun e=>hn (by rw [e]; exact N.off),h2,h1,hn⟩
theorem N3k (P:PSt h b c vE hs E iN N iL L) {u i:Nat} {e:Arc} (he:at_ E u i=some e) {ir:Nat} (hw:get hs (u:Int)=some (.rs ir 0 (b36 E u).length)) (x:Int) :
  PSt (h.upd ir (some (7,List.map eE ((b36 E u).set i { e with room:=x })))) b c vE hs (y12 E u i x) iN N iL L/\PFr h vE hs iN (h.upd ir (some (7,List.map eE ((b36 E u).set i { e with room:=x })))):=by
 obtain ⟨ir2,g1,g2,g3,g4,g5,g6,g7⟩:=N0y P.net he
 rw [hw] at g1
 cases g1
 have hne:∀ j,s8i vE hs j->¬ j=ir:=fun j hj e=>g7 (by rw [<- e]; exact hj)
 have hs1:y12 E u i x=E.set u ((b36 E u).set i { e with room:=x }):=N1o g6 g5
 have rr:=H1m (h':=h.upd ir (some (7,List.map eE ((b36 E u).set i { e with room:=x })))) (y:=(b36 E u).set i { e with room:=x }) P.net.rr (l19 g6) hw (c53 rfl) (by simp) (fun j _ hj _=>g3s hj) (Nat.le_refl _)
 rw [Int.toNat_natCast] at rr
 refine ⟨⟨⟨(g3s fun e=>g4 e.symm).trans P.net.box,by rw [hs1]; exact rr,P.net.off,P.net.lt⟩,(g3s (hne _ P.rnL)).trans P.obL,(g3s (hne _ P.rnN)).trans P.obN,P.ltL,P.ltN,P.rnL,P.rnN,P.neLN,P.neLb,P.neNb,by rw [N0n]; exact P.lenL,by rw [N0n]; exact P.lenN⟩,Nat.le_refl _,fun j _ hj _=>g3s (hne j hj),fun hm=>K6g hm (by decide)⟩
end
structure PushOut (h0:Heap) (b:Nat) (c:NetC) (vE:AV) (hs:List AV) (E:Net) (iN:Nat) (N:List Int) (iL:Nat) (L:List Int) (a:Nat) (most:Int) (r:AV) (h:Heap):Prop where
 ex : ∃ m E' N',r=I m/\Pushed E N L c.ou a most m E' N'/\PSt h b c vE hs E' iN N' iL L
 fr : PFr h0 vE hs iN h
structure PBd (E:Net) (c:NetC) (L:List Int):Prop where
 len : E.length<1000000
 row : ∀ u,(E.getD u []).length<1000000
 ou : c.ou<E.length
 hi : ∀ u,lv L u<1000000
 lo : ∀ u,-1<=lv L u
theorem PBd.shape {E E':Net} {c:NetC} {L:List Int} (h:PBd E c L) (s:K56 E' E):PBd E' c L:=⟨by rw [s.1]; exact h.len,fun u=>by rw [s.2]; exact h.row u,by rw [s.1]; exact h.ou,h.hi,h.lo⟩
structure PSl (t:Slots) (b a:Nat) (most s:Int) (iL iN n ie i:Nat):Prop where
 s0 : t 0 = .rp b 0 0
 s1 : t 1=I a
 s2 : t 2=I most
 s3 : t 3 = .rs iL 0 n
 s4 : t 4 = .rs iN 0 n
 s11 : t 11=I s
 s12 : t 12 = .rp ie i 0
theorem N6k (hf:Has O "(*newel/ways.net).push" x___ways_net__push):∀ (k:Nat) {h0:Heap} {b:Nat} {c:NetC} {vE:AV} {hs:List AV} {E:Net} {iN:Nat} {N:List Int} {iL:Nat} {L:List Int} (P0:PSt h0 b c vE hs E iN N iL L) (G:Fl.Good E) (bd:PBd E c L) {a:Nat} (ha:a<E.length) (hk:1000000<=lv L a+k)
  {most : Int} (hm0:0<most) (hm1:most<=1099511627776) (hn:∀ u,0<=N.getD u 0) (hr:∀ u,N.getD u 0<=((E.getD u []).length:Int)) (hd:b54 E L c.ou N),b6e O "(*newel/ways.net).push" [.rp b 0 0,I a,I most,.rs iL 0 E.length,.rs iN 0 E.length] h0 (PushOut h0 b c vE hs E iN N iL L a most):=by
 intro k
 induction k with
 | zero=>intro h0 b c vE hs E iN N iL L P0 G bd a ha hk; have:=bd.hi a; omega
 | succ k ih =>
 intro h0 b c vE hs E iN N iL L P0 G bd a ha hk most hm0 hm1 hn hr hd
 refine d8g hf rfl ?_
 obtain ⟨iq,rfl,oq,lq⟩:=r97 P0.net.rr (l19 (K37 ha))
 have box:=P0.net.box
 refine b1c (fun t h=>t 0 = .rp b 0 0/\t 1=I a/\t 2=I most/\t 3 = .rs iL 0 E.length/\t 4 = .rs iN 0 E.length/\h=h0) ⟨rfl,rfl,rfl,rfl,rfl,rfl⟩ fun t h ⟨s0,s1,s2,s3,s4,hh⟩=>?_
 subst hh
 simp only [x___ways_net__push]
 refine b0b fun K hK=>?_
 simp only [go_sem]
 refine hK _ _ ?_
 clear hK K
 refine b0i fun K1 hK1=>?_
 refine b0b fun K hK=>?_
 simp only [go_sem,s0,s1,box,NetC.cells]
 refine hK _ _ ?_
 clear hK K
 simp only [go_sem]
 refine b0k (fun hc=>?_) (fun hc=>?_)
 ·have hao:a=c.ou:=by have:=of_decide_eq_true hc; omega
  refine b0b fun K hK=>?_
  simp only [go_sem,s2]
  refine hK _ _ ?_
  clear hK K
  simp only [b0x,b1p,l4j]
  refine y65 (v:=I most) (by simp only [go_sem]) ⟨⟨most,E,N,rfl,?_,P0⟩,.refl _ _ _ _⟩
  rw [hao]
  exact N7e G (by omega) hn hr hd
 have hao:a≠c.ou:=fun e=>by have:=of_decide_eq_false hc; omega
 simp only [b0s,b0f]
 refine hK1 _ _ ?_
 clear hK1 K1
 refine b0b fun K hK=>?_
 simp only [go_sem]
 refine hK _ _ ?_
 clear hK K
 refine b0i fun KE hKE=>?_
 rw [b0u]
 refine c2k (fun m t1 h1=>∃ (s:Int) (E1:Net) (N1:List Int),PLoop E N L c.ou a most s E1 N1/\PSt h1 b c (.rs iq 0 E.length) hs E1 iN N1 iL L/\PFr h (.rs iq 0 E.length) hs iN h1/\t1 0 = .rp b 0 0/\t1 1=I a/\t1 2=I most/\t1 3 = .rs iL 0 E.length/\t1 4 = .rs iN 0 E.length/\t1 11=I s/\N1.getD a 0+m=((E.getD a []).length:Int)) ((E.getD a []).length - (N.getD a 0).toNat) ?_ ?_
 ·have := hn a
  have := hr a
  exact ⟨0,E,N,N7d G hm0 hn hr hd,P0,.refl _ _ _ _,by simp only [go_sem,s0],by simp only [go_sem,s1],by simp only [go_sem,s2],by simp only [go_sem,s3],by simp only [go_sem,s4],by simp only [go_sem],by omega⟩
 clear s0 s1 s2 s3 s4
 rintro m' t1 h1 ⟨s,E1,N1,pl,P,fr,s0,s1,s2,s3,s4,s11,hmm⟩
 simp only [N3v]
 have bd1:=bd.shape pl.shape
 have box1:=P.net.box
 have eLn:E1.length=E.length:=pl.shape.1
 have ha1:a<E1.length:=by rw [eLn]; exact ha
 have hN1:N1.length=E.length:=by rw [P.lenN,eLn]
 have haE:(a:Int)<(E.length:Int):=by omega
 have hgN:get N1 (a:Int)=some (N1.getD a 0):=l19 (by rw [List.getD_eq_getElem?_getD,gG9 (by rw [hN1]; exact ha)]; rfl)
 obtain ⟨i,hi⟩:∃ i:Nat,N1.getD a 0=i:=⟨(N1.getD a 0).toNat,by have:=pl.nn a; omega⟩
 rw [hi] at hgN hmm
 obtain ⟨iq1,eq1,oq1,lq1⟩:=r97 P.net.rr (l19 (K37 ha1))
 rw [eLn] at eq1
 cases eq1
 obtain ⟨w,hw,ow⟩:=r96 P.net.rr (l19 (K37 ha1))
 have hrow:(b36 E1 a).length=(E.getD a []).length:=pl.shape.2 a
 refine b0i fun K1 hK1=>?_
 refine b0b fun K hK=>?_
 simp only [go_sem,s0,s1,s4,P.obN,box1,NetC.cells,K33,haE,d8j,b3n hgN,oq1,b3n hw,eW,b5r w,l3r ow]
 refine hK _ _ ?_
 clear hK K
 simp only [go_sem]
 refine b0k (fun hc=>?_) (fun hc=>?_)
 rotate_left
 ·simp only [b09,b1b,b1a]
  refine hKE _ _ ?_
  clear hKE KE hK1 K1
  refine b0b fun K hK=>?_
  simp only [go_sem,s11]
  refine hK _ _ ?_
  clear hK K
  simp only [b0x,b1p,l4j]
  have := of_decide_eq_false hc
  refine y65 (v:=I s) (by simp only [go_sem]) ⟨⟨s,E1,N1,rfl,N7a pl hao ?_,P⟩,fr⟩
  rw [hi]
  show ((b36 E1 a).length:Int)<=i
  omega
 simp only [b0s,b0f]
 refine hK1 _ _ ?_
 clear hK1 K1
 have hil:i<(b36 E1 a).length:=by have:=of_decide_eq_true hc; omega
 obtain ⟨e,he0⟩:∃ e,(b36 E1 a)[i]?=some e:=⟨_,gG9 hil⟩
 have he:at_ E1 a i=some e:=by rw [N2i (K37 ha1)]; exact he0
 obtain ⟨ie,hwe,oe,le,neb,_,_,rne⟩:=N0y P.net he
 rw [hw] at hwe
 cases hwe
 have hiI:(i:Int)<((b36 E1 a).length:Int):=by omega
 refine b0i fun K3 hK3=>?_
 rw [b0u]
 refine b2p (fun t h2=>h2=h1/\t 0 = .rp b 0 0/\t 1=I a/\t 2=I most/\t 3 = .rs iL 0 E.length/\t 4 = .rs iN 0 E.length/\t 11=I s/\t 12 = .rp ie i 0) (fun K hK=>?_) ?_
 ·simp only [go_sem,s0,s1,s4,P.obN,box1,NetC.cells,K33,haE,d8j,b3n hgN,oq1,b3n hw,eW,b5r (.rs ie 0 (b36 E1 a).length),oe,hiI]
  exact hK _ _ ⟨rfl,by simp only [go_sem,s0],by simp only [go_sem,s1],by simp only [go_sem,s2],by simp only [go_sem,s3],by simp only [go_sem,s4],by simp only [go_sem,s11],by simp only [go_sem,Int.toNat_natCast]⟩
 clear s0 s1 s2 s3 s4 s11
 rintro t2 h2 ⟨rfl,s0,s1,s2,s3,s4,s11,s12⟩
 have hi6:i<1000000:=by have:=bd.row a; omega
 obtain ⟨hto,_,hr0,_⟩:=pl.good.p a i e he
 have htE:(e.to:Int)<(E.length:Int):=by rw [eLn] at hto; omega
 have hgT:get L (e.to:Int)=some (lv L e.to):=l19 (N0w (by rw [P.lenL]; exact hto))
 have hgA:get L (a:Int)=some (lv L a):=l19 (N0w (by rw [P.lenL]; exact ha1))
 have hie:get (b36 E1 a) (i:Int)=some e:=l19 he0
 have hir:∀ {kk:Nat->List (List AV)->List AV->Prop},@c7j (some (7,List.map Go.Nw.eE (b36 E1 a))) i ⟨kk⟩=kk 7 (List.map Go.Nw.eE (b36 E1 a)) (Go.Nw.eE e):=fun {kk}=>by
  have := b3n (f:=Go.Nw.eE) (sz:=7) (k:=kk) hie
  rw [Int.toNat_natCast] at this
  exact this
 have S:PSl t2 b a most s iL iN E.length ie i:=⟨s0,s1,s2,s3,s4,s11,s12⟩
 clear s0 s1 s2 s3 s4 s11 s12
 have hlvA:=bd1.hi a
 have hlvA2:=bd1.lo a
 have wA:IntKind.i64.wrap (lv L a+1)=lv L a+1:=g3z (by omega) (by omega)
 refine b0i fun K4 hK4=>?_
 refine b2p (fun t h3=>h3=h2/\PSl t b a most s iL iN E.length ie i/\t 71=B (decide (0<e.room) && decide (lv L e.to=lv L a+1))) (fun K hK=>?_) ?_
 ·simp only [go_sem,S.s12,oe,hir,Go.Nw.eE]
  refine b0k (fun hc1=>?_) (fun hc1=>?_)
  ·simp only [go_sem,S.s12,S.s1,S.s3,oe,hir,Go.Nw.eE,P.obL,K33,htE,haE,d8j,b3n hgT,b3n hgA,wA]
   exact hK _ _ ⟨rfl,⟨by simp only [go_sem,S.s0],by simp only [go_sem,S.s1],by simp only [go_sem,S.s2],by simp only [go_sem,S.s3],by simp only [go_sem,S.s4],by simp only [go_sem,S.s11],by simp only [go_sem,S.s12]⟩,by simp only [go_sem,hc1,Bool.true_and]⟩
  ·simp only [go_sem]
   exact hK _ _ ⟨rfl,⟨by simp only [go_sem,S.s0],by simp only [go_sem,S.s1],by simp only [go_sem,S.s2],by simp only [go_sem,S.s3],by simp only [go_sem,S.s4],by simp only [go_sem,S.s11],by simp only [go_sem,S.s12]⟩,by simp only [go_sem,hc1,Bool.false_and]⟩
 clear S
 rintro t3 h3 ⟨rfl,S,r71⟩
 simp only [go_sem,r71]
 have hNa:a<N1.length:=by rw [hN1]; exact ha
 refine b0k (fun hc2=>?_) (fun hc2=>?_)
 rotate_left
 ·have hna:adm L a e->¬ Alive E1 L c.ou e.to:=fun had=>by
   have e1:decide (0<e.room)=true:=decide_eq_true had.1
   have e2:decide (lv L e.to=lv L a+1)=true:=decide_eq_true had.2
   rw [e1,e2] at hc2
   cases hc2
  have pl2:=N3i pl hi he hNa hna
  obtain ⟨P2,fr2⟩:=N3j P (N':=N1.set a ((i+1:Nat):Int)) (by simp)
  refine hK4 _ _ ?_
  clear hK4 K4
  have hsm:¬ s=most:=by have:=pl.mm; omega
  refine b0b fun K hK=>?_
  simp only [go_sem,S.s11,S.s2]
  refine hK _ _ ?_
  clear hK K
  rw [decide_eq_false hsm]
  simp only [go_sem]
  refine hK3 _ _ ?_
  clear hK3 K3
  have wi:IntKind.i64.wrap ((i:Int)+1)=((i+1:Nat):Int):=by rw [g3z (by omega) (by omega)]; omega
  refine b03 fun K hK=>?_
  simp only [go_sem,S.s4,S.s1,P.obN,K33,haE,d8j,b3n hgN,wi]
  simp only [Int.toNat_natCast]
  refine hK _ _ ?_
  clear hK K
  simp only [b0f]
  have e3:=N1x (x:=((i+1:Nat):Int)) hNa a
  rw [if_pos rfl] at e3
  exact ⟨m' - 1,by omega,s,E1,_,pl2,P2,fr.trans fr2,by simp only [go_sem,S.s0],by simp only [go_sem,S.s1],by simp only [go_sem,S.s2],by simp only [go_sem,S.s3],by simp only [go_sem,S.s4],by simp only [go_sem,S.s11],by rw [e3]; omega⟩
 simp only [Bool.and_eq_true,decide_eq_true_eq] at hc2
 have hadm:adm L a e:=hc2
 obtain ⟨e0,hroom⟩:∃ e0:Arc,e.room<=1099511627776:=by
  obtain ⟨_,_,_,e',g1,g2,g3,g4⟩:=pl.good.p a i e he
  have := (pl.good.p _ _ _ g1).2.2.1
  exact ⟨e,by omega⟩
 have hmm2:=pl.mm
 have hm02:=pl.m0
 obtain ⟨q,hq⟩:∃ q,q=min (most - s) e.room:=⟨_,rfl⟩
 have hq1:q<=e.room:=by omega
 have hq2:q<=most - s:=by omega
 have hq0:0<q:=by have:=hadm.1; omega
 have wq:IntKind.i64.wrap (most - s)=most - s:=g3z (by omega) (by omega)
 refine b2p (fun t h4=>PSl t b a most s iL iN E.length ie i/\PFr h3 (.rs iq 0 E.length) hs iN h4/\∃ m E2 N2,t 13=I m/\Pushed E1 N1 L c.ou e.to q m E2 N2/\PSt h4 b c (.rs iq 0 E.length) hs E2 iN N2 iL L) (fun K hK=>?_) ?_
 ·simp only [go_sem,S.s0,S.s12,S.s2,S.s11,S.s3,S.s4,oe,hir,Go.Nw.eE,wq]
  have hmn:mn (most - s) e.room=q:=by
   unfold mn
   split <;> omega
  rw [hmn]
  have hk2:1000000<=lv L e.to+k:=by have:=hadm.2; omega
  have hcall:=ih P pl.good bd1 hto hk2 hq0 (by omega) pl.nn (fun u=>by rw [pl.shape.2]; exact pl.nr u) pl.dead
  rw [eLn] at hcall
  refine d9m hcall ?_
  rintro r h4 ⟨⟨m,E2,N2,rfl,pu,P2⟩,fr2⟩
  simp only [go_sem]
  exact hK _ _ ⟨⟨by simp only [go_sem,S.s0],by simp only [go_sem,S.s1],by simp only [go_sem,S.s2],by simp only [go_sem,S.s3],by simp only [go_sem,S.s4],by simp only [go_sem,S.s11],by simp only [go_sem,S.s12]⟩,fr2,m,E2,N2,by simp only [go_sem],pu,P2⟩
 clear S r71 oe hir
 rintro t4 h4 ⟨S,fr4,m,E2,N2,s13,pu,P2⟩
 obtain ⟨he2,G2,hme,hsm0,hsm1,_,_,_,_,_,_,_,hN2a⟩:=N2o pl he hadm hq1 hq2 pu
 have hrl2:b36 E2 a=b36 E1 a:=by
  have := pu.rows a (by have:=hadm.2; omega)
  unfold b36
  rw [List.getD_eq_getElem?_getD,List.getD_eq_getElem?_getD,this]
 obtain ⟨ie2,hwe2,oe2,le2,neb2,hg2,hE2a,rne2⟩:=N0y P2.net he2
 have eie:ie2=ie:=by
  rw [hrl2,hw] at hwe2
  cases hwe2; rfl
 subst eie
 have hir2:∀ {kk:Nat->List (List AV)->List AV->Prop},@c7j (some (7,List.map Go.Nw.eE (b36 E2 a))) i ⟨kk⟩=kk 7 (List.map Go.Nw.eE (b36 E2 a)) (Go.Nw.eE e):=fun {kk}=>by
  have := b3n (f:=Go.Nw.eE) (sz:=7) (k:=kk) (l19 hg2)
  rw [Int.toNat_natCast] at this
  exact this
 obtain ⟨P3,fr3⟩:=N3k P2 he2 hwe2 (e.room - m)
 have hm0:=pu.m0
 have wr1:IntKind.i64.wrap (e.room - m)=e.room - m:=g3z (by omega) (by omega)
 obtain ⟨e',hat',hto',hback',hsum',hr0',hal,hat3⟩:=N0d G2 he2 (m:=m)
 refine b2p (fun t h5=>PSl t b a most s iL iN E.length ie2 i/\t 13=I m/\PSt h5 b c (.rs iq 0 E.length) hs (y12 E2 a i (e.room - m)) iN N2 iL L/\PFr h4 (.rs iq 0 E.length) hs iN h5) (fun K hK=>?_) ?_
 ·simp only [go_sem,S.s12,s13,oe2,hir2,Go.Nw.eE,wr1,N3p]
  exact hK _ _ ⟨⟨by simp only [go_sem,S.s0],by simp only [go_sem,S.s1],by simp only [go_sem,S.s2],by simp only [go_sem,S.s3],by simp only [go_sem,S.s4],by simp only [go_sem,S.s11],by simp only [go_sem,S.s12]⟩,by simp only [go_sem,s13],P3,fr3⟩
 clear S s13 P3 fr3
 rintro t5 h5 ⟨S,s13,P3,fr3⟩
 have at3:at_ (y12 E2 a i (e.room - m)) a i=some { e with room:=e.room - m }:=by rw [N1f he2,if_pos ⟨rfl,rfl⟩]
 generalize hE3:y12 E2 a i (e.room - m)=E3 at *
 have eL3:E3.length=E.length:=by rw [<- hE3,N0n,pu.shape.1,eLn]
 obtain ⟨ie3,hwe3,oe3,le3,neb3,hg3,hE3a,rne3⟩:=N0y P3.net at3
 have hl3:(b36 E3 a).length=(b36 E2 a).length:=by rw [<- hE3]; exact (N2r E2 a i (e.room - m)).2 a
 have eie:ie3=ie2:=by
  rw [hl3,hwe2] at hwe3
  cases hwe3; rfl
 subst eie
 have hir3:∀ {kk:Nat->List (List AV)->List AV->Prop},@c7j (some (7,List.map Go.Nw.eE (b36 E3 a))) i ⟨kk⟩=kk 7 (List.map Go.Nw.eE (b36 E3 a)) (Go.Nw.eE { e with room:=e.room - m }):=fun {kk}=>by
  have := b3n (f:=Go.Nw.eE) (sz:=7) (k:=kk) (l19 hg3)
  rw [Int.toNat_natCast] at this
  exact this
 obtain ⟨ib,hwb,ob,lb,nbb,hgb,hEb,rnb⟩:=N0y P3.net hat3
 have hbi:(e.back:Int)<((b36 E3 e.to).length:Int):=by
  have := (gS9.1 hgb).1
  omega
 have box3:=P3.net.box
 obtain ⟨iq3,eq3,oq3,lq3⟩:=r97 P3.net.rr (l19 hEb)
 rw [eL3] at eq3
 cases eq3
 have wr2:IntKind.i64.wrap (e'.room+m)=e'.room+m:=g3z (by omega) (by omega)
 obtain ⟨P4,fr5⟩:=N3k P3 hat3 hwb (e'.room+m)
 have hgb2:=l19 hgb
 refine b2p (fun t h6=>PSl t b a most s iL iN E.length ie3 i/\t 13=I m/\PSt h6 b c (.rs iq 0 E.length) hs (o19 E2 a i m) iN N2 iL L/\PFr h5 (.rs iq 0 E.length) hs iN h6) (fun K hK=>?_) ?_
 ·simp only [go_sem,S.s0,S.s12,s13,box3,NetC.cells,oe3,hir3,Go.Nw.eE,oq3,K33,htE,d8j,b3n hwb,eW,ob,hbi,b3n hgb2,wr2,N3p]
  simp only [Int.toNat_natCast]
  rw [hal] at hK
  exact hK _ _ ⟨⟨by simp only [go_sem,S.s0],by simp only [go_sem,S.s1],by simp only [go_sem,S.s2],by simp only [go_sem,S.s3],by simp only [go_sem,S.s4],by simp only [go_sem,S.s11],by simp only [go_sem,S.s12]⟩,by simp only [go_sem,s13],P4,fr5⟩
 clear S s13 P4 fr5
 rintro t6 h6 ⟨S,s13,P4,fr5⟩
 have frA:=((fr.trans fr4).trans fr3).trans fr5
 have wsm:IntKind.i64.wrap (s+m)=s+m:=g3z (by omega) (by omega)
 refine b03 fun K hK=>?_
 simp only [go_sem,S.s11,s13,wsm]
 refine hK _ _ ?_
 clear hK K
 refine hK4 _ _ ?_
 clear hK4 K4
 refine b0b fun K hK=>?_
 simp only [go_sem,S.s2]
 refine hK _ _ ?_
 clear hK K
 simp only [go_sem]
 refine b0k (fun hc3=>?_) (fun hc3=>?_)
 ·have hf:=of_decide_eq_true hc3
  refine b0b fun K hK=>?_
  simp only [go_sem]
  refine hK _ _ ?_
  clear hK K
  simp only [b0x,b1p,b2e,l4j]
  exact y65 (v:=I (s+m)) (by simp only [go_sem]) ⟨⟨s+m,_,N2,rfl,N7b pl he hadm hq1 hq2 pu hf,P4⟩,frA⟩
 ·have hf:=of_decide_eq_false hc3
  simp only [go_sem]
  refine hK3 _ _ ?_
  clear hK3 K3
  have pl2:=N7c pl hi he hNa hadm hq pu hf
  have hN2n:a<N2.length:=by rw [pu.nlen]; exact hNa
  obtain ⟨P5,fr6⟩:=N3j P4 (N':=N2.set a ((i+1:Nat):Int)) (by simp)
  have e3:=N1x (x:=((i+1:Nat):Int)) hN2n a
  rw [if_pos rfl] at e3
  have hgN2:get N2 (a:Int)=some (i:Int):=by
   rw [<- hi,<- hN2a]
   exact l19 (by rw [List.getD_eq_getElem?_getD,gG9 hN2n]; rfl)
  have wi:IntKind.i64.wrap ((i:Int)+1)=((i+1:Nat):Int):=by rw [g3z (by omega) (by omega)]; omega
  have obN4:=P4.obN
  refine b03 fun K hK=>?_
  simp only [go_sem,S.s4,S.s1,obN4,K33,haE,d8j,b3n hgN2,wi]
  simp only [Int.toNat_natCast]
  refine hK _ _ ?_
  clear hK K
  simp only [b0f]
  exact ⟨m' - 1,by omega,s+m,_,_,pl2,P5,frA.trans fr6,by simp only [go_sem,S.s0],by simp only [go_sem,S.s1],by simp only [go_sem,S.s2],by simp only [go_sem,S.s3],by simp only [go_sem,S.s4],by simp only [go_sem],by rw [e3]; omega⟩
end Go.Nw.EM
namespace Go.Nw.Fl
def N0b (b u:Nat):Bool:=decide (u=b)
def N1y (L:List Int) (u:Nat):Bool:=decide (0<=lv L u)
def N2x (E:Net) (b o:Nat) (v:Int):Prop:=(∃ S:Nat->Bool,S b=true/\S o=false/\v=out S E)/\∀ S:Nat->Bool,S b=true->S o=false->v<=out S E
structure FInv (E0:Net) (b o:Nat) (s:Int) (E:Net):Prop where
 s0 : 0<=s
 good : Good E
 shape : K56 E E0
 out : ∀ S,out S E=out S E0 - s * (bi (S b) - bi (S o))
theorem N5a {E0:Net} (G:Good E0) (b o:Nat):FInv E0 b o 0 E0:=⟨Int.le_refl _,G,.refl _,fun S=>by rw [Int.zero_mul,Int.sub_zero]⟩
theorem N5i {E:Net} (G:Good E):∀ u i e,at_ E u i=some e->0<=e.room:=fun u i e h=>(G.p u i e h).2.2.1
theorem N0t {E0 E:Net} {b o:Nat} {s:Int} (h:FInv E0 b o s E) {S:Nat->Bool} (hb:S b=true) (ho:S o=false):out S E=out S E0 - s/\0<=out S E:=by
 refine ⟨?_,N66 (N5i h.good) S⟩
 rw [h.out S,hb,ho]
 simp [bi]
theorem N48 {E0 E:Net} {b o:Nat} {s:Int} (h:FInv E0 b o s E) {L:List Int} (l:Lev E b L) (ho:lv L o<0):N2x E0 b o s:=by
 have hc:=N6u h.good l
 have hb:decide (0<=lv L b)=true:=decide_eq_true (by rw [l.b0]; exact Int.le_refl _)
 have ho2:decide (0<=lv L o)=false:=decide_eq_false (by omega)
 refine ⟨⟨N1y L,hb,ho2,?_⟩,fun S h1 h2=>?_⟩
 ·have := (N0t h (S:=N1y L) hb ho2).1
  have hc2:out (N1y L) E=0:=hc
  omega
 ·have := N0t h h1 h2
  omega
theorem N49 {E0 E E':Net} {N L N':List Int} {b o:Nat} {s most m:Int} (h:FInv E0 b o s E) (l:Lev E b L) (ho:0<=lv L o) (hm:0<most) (p:Pushed E N L o b most m E' N'):1<=m/\FInv E0 b o (s+m) E':=by
 have h0:=p.m0
 have hs:=h.s0
 have hm1:1<=m:=Classical.byContradiction fun hn=>by
  have z:m=0:=by omega
  have := p.stop (by omega)
  rw [p.same z] at this
  exact this (N6t l ho)
 refine ⟨hm1,by omega,p.good,p.shape.trans h.shape,fun S=>?_⟩
 rw [p.out S,h.out S,Int.add_mul]
 omega
end Go.Nw.Fl
namespace Go.Nw.EM
open Go.Nw.Tp6 Go.Nw.Fl
set_option maxHeartbeats 4000000
variable {O:Orac} [MapsOk O]
structure FillOk (E:Net) (c:NetC):Prop where
 good : Fl.Good E
 len : E.length<1000000
 row : ∀ u,(E.getD u []).length<1000000
 ou : c.ou<E.length
 bg : c.bg<E.length
 ne : c.bg≠c.ou
 big : out (N0b c.bg) E<=4000000000000000000
def N32 (E:Net) (c:NetC) (r:AV) (_:Heap):Prop:=∃ v,r=I v/\N2x E c.bg c.ou v
theorem N6e (hf:Has O "(*newel/ways.net).fill" x___ways_net__fill) (hl:Has O "(*newel/ways.net).levels" x___ways_net__levels) (hp:Has O "(*newel/ways.net).push" x___ways_net__push) (kr:N09 O) {h0:Heap} {b:Nat} {c:NetC} {vE:AV} {hs:List AV} {E0:Net} (N0:NetH h0 b c vE hs E0) (ok:FillOk E0 c) :
  b6e O "(*newel/ways.net).fill" [.rp b 0 0] h0 (N32 E0 c):=by
 refine d8g hf rfl ?_
 refine b1c (fun t h=>t 0 = .rp b 0 0/\h=h0) ⟨rfl,rfl⟩ fun t h ⟨s0,hh⟩=>?_
 subst hh
 simp only [x___ways_net__fill]
 refine b0b fun K hK=>?_
 simp only [go_sem]
 refine hK _ _ ?_
 clear hK K
 refine b0b fun K hK=>?_
 simp only [go_sem]
 refine hK _ _ ?_
 clear hK K
 rw [b0u]
 have hS0:N0b c.bg c.bg=true:=by simp [N0b]
 have hS1:N0b c.bg c.ou=false:=by simpa [N0b] using fun e=>ok.ne (Eq.symm e)
 refine c2k (fun m t1 h1=>∃ (s:Int) (E:Net),FInv E0 c.bg c.ou s E/\NetH h1 b c vE hs E/\t1 0 = .rp b 0 0/\t1 3=I s/\(m:Int)=out (N0b c.bg) E) (out (N0b c.bg) E0).toNat ?_ ?_
 ·have fi:=N5a ok.good c.bg c.ou
  have := (N0t fi hS0 hS1).2
  exact ⟨0,E0,fi,N0,by simp only [go_sem,s0],by simp only [go_sem],by omega⟩
 clear s0
 rintro m t1 h1 ⟨s,E,fi,N,s0,s3,hmm⟩
 simp only [N3s]
 have hcut:=N0t fi hS0 hS1
 have hss:=fi.s0
 have hbig:=ok.big
 have hlen:E.length=E0.length:=fi.shape.1
 have hrow:∀ u,(b36 E u).length<1000000:=fun u=>by
  have := fi.shape.2 u
  unfold b36
  rw [this]; exact ok.row u
 have hbg:c.bg<E.length:=by rw [hlen]; exact ok.bg
 have hou:c.ou<E.length:=by rw [hlen]; exact ok.ou
 rw [b0u]
 refine b2p (fun t h2=>t 0 = .rp b 0 0/\t 3=I s/\∃ iL L,t 4 = .rs iL 0 E.length/\h2.ob iL=some (1,List.map eI L)/\h1.nx<=iL/\iL<h2.nx/\Lev E c.bg L/\Old h1 h2) (fun K hK=>?_) ?_
 ·simp only [go_sem,s0]
  refine d9m (N6h hl kr N hbg (by rw [hlen]; exact ok.len) hrow (fun u i e he=>(fi.good.p u i e he).1)) ?_
  rintro r h2 ⟨⟨iL,L,rfl,g1,g2,g3,g4⟩,old⟩
  simp only [go_sem]
  exact hK _ _ ⟨by simp only [go_sem,s0],by simp only [go_sem,s3],iL,L,by simp only [go_sem],g1,g2,g3,g4,old⟩
 clear s0 s3
 rintro t2 h2 ⟨s0,s3,iL,L,s4,obL,geL,ltL,lev,old⟩
 have N2:=old.neth N
 have box:=N2.box
 have hgo:get L (c.ou:Int)=some (lv L c.ou):=l19 (N0w (by rw [lev.len]; exact hou))
 have hoE:(c.ou:Int)<(E.length:Int):=by omega
 refine b0i fun K1 hK1=>?_
 refine b0b fun K hK=>?_
 simp only [go_sem,s0,s4,box,NetC.cells,obL,K33,hoE,d8j,b3n hgo]
 refine hK _ _ ?_
 clear hK K
 simp only [go_sem]
 refine b0k (fun hc=>?_) (fun hc=>?_)
 ·have hneg:=of_decide_eq_true hc
  refine b0b fun K hK=>?_
  simp only [go_sem,s3]
  refine hK _ _ ?_
  clear hK K
  simp only [b0x,b1p,b2e,l4j]
  exact y65 (v:=I s) (by simp only [go_sem]) ⟨s,rfl,N48 fi lev hneg⟩
 simp only [go_sem]
 refine hK1 _ _ ?_
 clear hK1 K1
 have hpos:0<=lv L c.ou:=by have:=of_decide_eq_false hc; omega
 have wl:IntKind.i64.wrap ((E.length:Nat):Int)=E.length:=g3z (by omega) (by have:=ok.len; omega)
 refine b03 fun K hK=>?_
 simp only [go_sem,s0,s3,s4,box,NetC.cells,r8a N2.rr]
 have hElen:=ok.len
 refine d2k (f:=eI) (z:=0) (l:=List.replicate E.length 0) rfl (j8b (n:=(E.length:Int)) (by omega) (by omega) (by omega)) ?_
 simp only [go_sem,List.length_replicate]
 have nn0:∀ u,(List.replicate E.length (0:Int)).getD u 0=0:=fun u=>by
  rw [List.getD_eq_getElem?_getD,List.getElem?_replicate]
  split <;> rfl
 have bd:PBd E c L:=⟨by omega,hrow,hou,fun u=>by have:=lev.hi u; omega,lev.lo⟩
 have dead:b54 E L c.ou (List.replicate E.length 0):=fun u i e _ hi _=>by rw [nn0] at hi; omega
 have lq2:=N2.lt
 have oldn:=old.nx
 have P:PSt (h2.new (1,List.map eI (List.replicate E.length 0))) b c vE hs E h2.nx (List.replicate E.length 0) iL L :=
  ⟨N2g N2 (d4e N2.lt) (fun j _ hl=>d4e hl) (by simp only [go_sem,nxs]; omega),(d4e ltL).trans obL,by simp only [go_sem],by simp only [go_sem,nxs]; omega,by simp only [go_sem,nxs]; omega,r7w N.rr geL,r7w N2.rr (Nat.le_refl _),by omega,by have:=N.lt; omega,by omega,lev.len,by simp⟩
 have hcall:=N6k hp 1000001 P fi.good bd hbg (by rw [lev.b0]; omega) (most:=1099511627776) (by decide) (by decide) (fun u=>by rw [nn0]; exact Int.le_refl _) (fun u=>by rw [nn0]; omega) dead
 refine d9m hcall ?_
 rintro r h3 ⟨⟨k,E',N',rfl,pu,P3⟩,_⟩
 obtain ⟨hk1,fi2⟩:=N49 fi lev hpos (by decide) pu
 have hcut2:=N0t fi2 hS0 hS1
 have wr:IntKind.i64.wrap (s+k)=s+k:=g3z (by omega) (by omega)
 simp only [go_sem,s3,wr]
 refine hK _ _ ?_
 clear hK K
 simp only [b02,b0f]
 exact ⟨(out (N0b c.bg) E').toNat,by omega,s+k,E',fi2,P3.net,by simp only [go_sem,s0],by simp only [go_sem],by omega⟩
end Go.Nw.EM
namespace Go.Nw.EM
theorem N0l (S:Nat->Bool):∀ A B:List J4,b45 S (A++B)=b45 S A+b45 S B
 | [],B=>by simp [b45]
 | j :: A,B=>by simp only [List.cons_append,b45,N0l S A B]; omega
theorem N2m (S:Nat->Bool):∀ {J:List J4},(∀ j∈J,0<=j.2.2.1)->0<=b45 S J
 | [],_=>Int.le_refl _
 | j :: J,h=>by
  have h1:=h j List.mem_cons_self
  have h2:=N2m S (J:=J) fun x hx=>h x (List.mem_cons_of_mem _ hx)
  simp only [b45]
  split <;> omega
theorem N1l (S:Nat->Bool):∀ {J:List J4},(∀ j∈J,0<=j.2.2.1)->∀ j∈J,S j.1=true->S j.2.1=false->j.2.2.1<=b45 S J
 | [],_,j,hj,_,_=>by simp at hj
 | k :: J,h,j,hj,h1,h2=>by
  have h0:=h k List.mem_cons_self
  have hr:=fun x hx=>h x (List.mem_cons_of_mem k hx)
  simp only [b45]
  rcases List.mem_cons.1 hj with rfl|hj
  ·rw [if_pos ⟨h1,h2⟩]
   have := N2m S hr
   omega
  ·have := N1l S hr j hj h1 h2
   split <;> omega
theorem N01 (S:Nat->Bool):∀ {J:List J4},(∀ j∈J,S j.1=true->S j.2.1=false->j.2.2.1=0)->b45 S J=0
 | [],_=>rfl
 | j :: J,h=>by
  have h1:=h j List.mem_cons_self
  have h2:=N01 S (J:=J) fun x hx=>h x (List.mem_cons_of_mem _ hx)
  simp only [b45,h2]
  split
  ·rename_i hc; rw [h1 hc.1 hc.2]; rfl
  ·rfl
theorem N3d (S:Nat->Bool) (w:Int):∀ {J:List J4},(∀ j∈J,S j.1=true/\S j.2.1=false/\j.2.2.1=w)->b45 S J=w * (J.length:Int)
 | [],_=>by simp [b45]
 | j :: J,h=>by
  have h1:=h j List.mem_cons_self
  have h2:=N3d S w (J:=J) fun x hx=>h x (List.mem_cons_of_mem _ hx)
  simp only [b45,h2,List.length_cons]
  rw [if_pos ⟨h1.1,h1.2.1⟩,h1.2.2]
  have : w * ((J.length+1:Nat):Int)=w * (J.length:Int)+w:=by
   rw [show ((J.length+1:Nat):Int)=(J.length:Int)+1 by omega,Int.mul_add,Int.mul_one]
  rw [this]; omega
theorem N2n (S:Nat->Bool) (f:Nat->List J4):∀ n,(∀ p,1<=p->p<n->b45 S (f p)=0)->1<=n->b45 S ((List.range n).flatMap f)=b45 S (f 0)
 | 0,_,h=>by omega
 | 1,_,_=>by simp
 | n+2,h,_=>by
  have ih:=N2n S f (n+1) (fun p h1 h2=>h p h1 (by omega)) (by omega)
  rw [List.range_succ,List.flatMap_append,N0l,ih]
  simp only [List.flatMap_cons,List.flatMap_nil,List.append_nil]
  rw [h (n+1) (by omega) (by omega)]; omega
def K73:List H5->Int
 | []=>0
 | h :: r=>h.2.2.2.2+K73 r
structure Star (s:Station) (people:List Int) (N:Int) (pl d:Nat) (hs:List H5):Prop where
 plE : s.Places=(pl:Int)
 p2 : 2<=pl
 ex0 : s.Exits.contains 0=false
 ex1 : ∀ q:Nat,1<=q->q<pl->s.Exits.contains (q:Int)=true
 pe0 : people.getD 0 0=N
 pe1 : ∀ q:Nat,1<=q->people.getD q 0=0
 hd : M99 s=hs
 hq : ∀ x∈hs,x.2.1=0/\(∃ q:Nat,1<=q/\q<pl/\x.2.2.1=(q:Int))/\x.2.2.2.1=(d:Int)/\0<=x.2.2.2.2
 n0 : 0<=N
 nP : N<=1099511627776
section
variable {s:Station} {people:List Int} {N:Int} {pl d:Nat} {hs:List H5} (st:Star s people N pl d hs) (T:Nat)
include st
theorem N3q (S:Nat->Bool) (h0:∀ t,t<=T->S (pl * t)=true) (h1:∀ q t,1<=q->q<pl->t<=T->S (pl * t+q)=false) (hd1:1<=d):b45 S (hs.flatMap fun h=>P1b pl h (T+1 - h.2.2.2.1.toNat))=K73 hs * ((T+1 - d:Nat):Int):=by
 have key:∀ l:List H5,(∀ x∈l,x∈hs)->b45 S (l.flatMap fun h=>P1b pl h (T+1 - h.2.2.2.1.toNat))=K73 l * ((T+1 - d:Nat):Int):=by
  intro l
  induction l with
  | nil=>intro _; simp [K73,b45]
  | cons x l ih =>
   intro hl
   obtain ⟨e1,⟨q,hq1,hq2,e2⟩,e3,e4⟩:=st.hq x (hl x List.mem_cons_self)
   rw [List.flatMap_cons,N0l,ih fun y hy=>hl y (List.mem_cons_of_mem _ hy)]
   rw [N3d S x.2.2.2.2]
   ·have : (P1b pl x (T+1 - x.2.2.2.1.toNat)).length=T+1 - d:=by simp [P1b,e3]
    rw [this]
    simp only [K73]
    rw [Int.add_mul]
   ·intro j hj
    unfold P1b at hj
    obtain ⟨t,ht,rfl⟩:=List.mem_map.1 hj
    rw [List.mem_range,e3,Int.toNat_natCast] at ht
    simp only [e1,e2,e3,Int.toNat_natCast,Int.toNat_zero,Nat.add_zero]
    exact ⟨h0 t (by omega),h1 q (t+d) hq1 hq2 (by omega),trivial⟩
 exact key hs fun x hx=>hx
theorem N7r:∀ j∈l89 s people T,0<=j.2.2.1:=by
 intro j hj
 unfold l89 at hj
 rcases List.mem_append.1 hj with hj|hj
 ·obtain ⟨p,hp,hj⟩:=List.mem_flatMap.1 hj
  unfold P1c at hj
  rcases List.mem_cons.1 hj with rfl|hj
  ·show 0<=people.getD p 0
   cases p with
   | zero=>rw [st.pe0]; exact st.n0
   | succ p=>rw [st.pe1 (p+1) (by omega)]; exact Int.le_refl _
  ·rcases List.mem_append.1 hj with hj|hj
   ·unfold J35 at hj
    obtain ⟨t,_,rfl⟩:=List.mem_map.1 hj
    show (0:Int)<=1099511627776
    decide
   ·split at hj
    ·unfold P1g at hj
     obtain ⟨t,_,rfl⟩:=List.mem_map.1 hj
     show (0:Int)<=1099511627776
     decide
    ·simp at hj
 ·obtain ⟨x,hx,hj⟩:=List.mem_flatMap.1 hj
  rw [st.hd] at hx
  unfold P1b at hj
  obtain ⟨t,_,rfl⟩:=List.mem_map.1 hj
  exact (st.hq x hx).2.2.2
theorem N7q (S:Nat->Bool) (hb:S (pl * (T+1))=true) (ho:S (pl * (T+1)+1)=false) (hd1:1<=d):min N (K73 hs * ((T+1 - d:Nat):Int))<=b45 S (l89 s people T):=by
 have hpl:s.Places.toNat=pl:=by rw [st.plE]; simp
 have hp2:=st.p2
 have nn:=N7r st T
 have mem0:(pl * (T+1),0,N,((-1:Int),(0:Int),(0:Int),(0:Int)))∈l89 s people T:=by
  unfold l89
  refine List.mem_append_left _ (List.mem_flatMap.2 ⟨0,List.mem_range.2 (by rw [hpl]; omega),?_⟩)
  unfold P1c
  rw [hpl,st.pe0]
  exact List.mem_cons_self
 have memW:∀ t,t<T->(pl * t,pl * (t+1),(1099511627776:Int),((-1:Int),(0:Int),(0:Int),(0:Int)))∈l89 s people T:=fun t ht=>by
  unfold l89
  refine List.mem_append_left _ (List.mem_flatMap.2 ⟨0,List.mem_range.2 (by rw [hpl]; omega),?_⟩)
  unfold P1c
  refine List.mem_cons_of_mem _ (List.mem_append_left _ ?_)
  rw [hpl]
  unfold J35
  exact List.mem_map.2 ⟨t,List.mem_range.2 ht,by simp⟩
 have memE:∀ q t,1<=q->q<pl->t<=T->(pl * t+q,pl * (T+1)+1,(1099511627776:Int),((-1:Int),(0:Int),(0:Int),(0:Int)))∈l89 s people T:=fun q t h1 h2 ht=>by
  unfold l89
  refine List.mem_append_left _ (List.mem_flatMap.2 ⟨q,List.mem_range.2 (by rw [hpl]; exact h2),?_⟩)
  unfold P1c
  refine List.mem_cons_of_mem _ (List.mem_append_right _ ?_)
  rw [if_pos (st.ex1 q h1 h2),hpl]
  unfold P1g
  exact List.mem_map.2 ⟨t,List.mem_range.2 (by omega),rfl⟩
 have hP:=st.nP
 by_cases h0:S 0=true
 ·by_cases hw:∃ t,t<T/\S (pl * t)=true/\S (pl * (t+1))=false
  ·obtain ⟨t,ht,h1,h2⟩:=hw
   have h3:(1099511627776:Int)<=b45 S (l89 s people T):=N1l S nn _ (memW t ht) h1 h2
   omega
  ·have hall:∀ t,t<=T->S (pl * t)=true:=by
    intro t
    induction t with
    | zero=>intro _; rw [Nat.mul_zero]; exact h0
    | succ t ih =>
     intro ht
     have h1:=ih (by omega)
     cases h2:S (pl * (t+1)) with
     | true=>rfl
     | false=>exact absurd ⟨t,by omega,h1,h2⟩ hw
   by_cases he:∃ q t,1<=q/\q<pl/\t<=T/\S (pl * t+q)=true
   ·obtain ⟨q,t,h1,h2,h3,h4⟩:=he
    have h3:(1099511627776:Int)<=b45 S (l89 s people T):=N1l S nn _ (memE q t h1 h2 h3) h4 ho
    omega
   ·have hno:∀ q t,1<=q->q<pl->t<=T->S (pl * t+q)=false:=fun q t h1 h2 h3=>by
     cases h4:S (pl * t+q) with
     | false=>rfl
     | true=>exact absurd ⟨q,t,h1,h2,h3,h4⟩ he
    have hh:=N3q st T S hall hno hd1
    have h1:b45 S (l89 s people T)=b45 S ((List.range s.Places.toNat).flatMap (P1c s people T))+b45 S (hs.flatMap fun h=>P1b pl h (T+1 - h.2.2.2.1.toNat)):=by
     unfold l89
     rw [N0l,st.hd,hpl]
    have h2:0<=b45 S ((List.range s.Places.toNat).flatMap (P1c s people T)):=N2m S fun j hj=>nn j (by unfold l89; exact List.mem_append_left _ hj)
    rw [h1,hh]
    omega
 ·have h3:N<=b45 S (l89 s people T):=N1l S nn _ mem0 hb (by simpa using h0)
  omega
theorem N3b {p t:Nat} (hp:p<pl) (ht:t<=T):pl * t+p<pl * (T+1):=by
 have h1:pl * t+pl<=pl * (T+1):=by
  rw [<- Nat.mul_succ]; exact Nat.mul_le_mul_left _ (by omega)
 omega
theorem N7s:∃ S:Nat->Bool,S (pl * (T+1))=true/\S (pl * (T+1)+1)=false/\N=b45 S (l89 s people T):=by
 have hpl:s.Places.toNat=pl:=by rw [st.plE]; simp
 have hp2:=st.p2
 refine ⟨fun x=>decide (x=pl * (T+1)),by simp,by simp,?_⟩
 have hne:∀ p t,p<pl->t<=T->decide (pl * t+p=pl * (T+1))=false:=fun p t h1 h2=>decide_eq_false (by have:=N3b st T h1 h2; omega)
 unfold l89
 rw [N0l]
 have hz:b45 (fun x=>decide (x=pl * (T+1))) ((M99 s).flatMap fun h=>P1b s.Places.toNat h (T+1 - h.2.2.2.1.toNat))=0:=N01 _ fun j hj h1 _=>by
  obtain ⟨x,hx,hj⟩:=List.mem_flatMap.1 hj
  rw [st.hd] at hx
  unfold P1b at hj
  obtain ⟨t,ht,rfl⟩:=List.mem_map.1 hj
  rw [List.mem_range] at ht
  obtain ⟨e1,_⟩:=st.hq x hx
  simp only [hpl,e1,Int.toNat_zero] at h1
  rw [hne 0 t (by omega) (by omega)] at h1
  cases h1
 have hrest:∀ p,p<pl->b45 (fun x=>decide (x=pl * (T+1))) (J35 pl p T++if s.Exits.contains (p:Int) then P1g pl T p (T+1) else [])=0:=fun p hp=>N01 _ fun j hj h1 _=>by
  rcases List.mem_append.1 hj with hj|hj
  ·unfold J35 at hj
   obtain ⟨t,ht,rfl⟩:=List.mem_map.1 hj
   rw [List.mem_range] at ht
   simp only at h1
   rw [hne p t hp (by omega)] at h1; cases h1
  ·split at hj
   ·unfold P1g at hj
    obtain ⟨t,ht,rfl⟩:=List.mem_map.1 hj
    rw [List.mem_range] at ht
    simp only at h1
    rw [hne p t hp (by omega)] at h1; cases h1
   ·simp at hj
 rw [hz,hpl,N2n]
 ·unfold P1c
  rw [hpl]
  simp only [b45]
  rw [hrest 0 (by omega),if_pos ⟨by simp,decide_eq_false (by have h:=N3b st T (p:=0) (t:=0) (by omega) (by omega); rw [Nat.mul_zero] at h; omega)⟩,st.pe0]
  omega
 ·intro p h1 h2
  unfold P1c
  rw [hpl]
  simp only [b45]
  rw [hrest p h2,st.pe1 p h1]
  split <;> rfl
 ·omega
theorem N7t (hd1:1<=d):∃ S:Nat->Bool,S (pl * (T+1))=true/\S (pl * (T+1)+1)=false/\K73 hs * ((T+1 - d:Nat):Int)=b45 S (l89 s people T):=by
 have hpl:s.Places.toNat=pl:=by rw [st.plE]; simp
 have hp2:=st.p2
 have h0:∀ t,decide (pl * t % pl=0)=true:=fun t=>decide_eq_true (Nat.mul_mod_right pl t)
 have h1:∀ q t,1<=q->q<pl->decide ((pl * t+q) % pl=0)=false:=fun q t h1 h2=>decide_eq_false (by rw [Nat.mul_add_mod,Nat.mod_eq_of_lt h2]; omega)
 refine ⟨fun x=>decide (x % pl=0),h0 _,h1 1 _ (by omega) (by omega),?_⟩
 have hh:=N3q st T (fun x=>decide (x % pl=0)) (fun t _=>h0 t) (fun q t a b _=>h1 q t a b) hd1
 have e:b45 (fun x=>decide (x % pl=0)) (l89 s people T)=b45 (fun x=>decide (x % pl=0)) ((List.range s.Places.toNat).flatMap (P1c s people T))+b45 (fun x=>decide (x % pl=0)) (hs.flatMap fun h=>P1b pl h (T+1 - h.2.2.2.1.toNat)):=by
  unfold l89
  rw [N0l,st.hd,hpl]
 rw [e,hh,hpl,N2n]
 ·unfold P1c
  rw [hpl]
  simp only [b45]
  have ez:b45 (fun x=>decide (x % pl=0)) (J35 pl 0 T++if s.Exits.contains ((0:Nat):Int) then P1g pl T 0 (T+1) else [])=0:=N01 _ fun j hj a b=>by
   rw [show ((0:Nat):Int)=0 from rfl,st.ex0] at hj
   simp only [fT9,if_false,List.append_nil] at hj
   unfold J35 at hj
   obtain ⟨t,ht,rfl⟩:=List.mem_map.1 hj
   simp only [Nat.add_zero] at b
   rw [h0 (t+1)] at b; cases b
  rw [ez,if_neg (by simp)]
  omega
 ·intro p a b
  unfold P1c
  rw [hpl]
  simp only [b45]
  rw [st.pe1 p a]
  have ez:b45 (fun x=>decide (x % pl=0)) (J35 pl p T++if s.Exits.contains (p:Int) then P1g pl T p (T+1) else [])=0:=N01 _ fun j hj c _=>by
   rcases List.mem_append.1 hj with hj|hj
   ·unfold J35 at hj
    obtain ⟨t,ht,rfl⟩:=List.mem_map.1 hj
    simp only at c
    rw [h1 p t a b] at c; cases c
   ·split at hj
    ·unfold P1g at hj
     obtain ⟨t,ht,rfl⟩:=List.mem_map.1 hj
     simp only at c
     rw [h1 p t a b] at c; cases c
    ·simp at hj
  rw [ez]
  split <;> rfl
 ·omega
theorem N7p (hd1:1<=d):N0g (pl * (T+1)) (pl * (T+1)+1) (l89 s people T) (min N (K73 hs * ((T+1 - d:Nat):Int))):=by
 refine ⟨?_,fun S h1 h2=>N7q st T S h1 h2 hd1⟩
 by_cases h:N<=K73 hs * ((T+1 - d:Nat):Int)
 ·rw [Int.min_eq_left h]; exact N7s st T
 ·rw [Int.min_eq_right (by omega)]; exact N7t st T hd1
end
theorem N42 {b o:Nat} {J:List J4} {v:Int} (h:N0g b o J v):N0s b o J=some v:=by
 unfold N0s
 have hx:∃ v,N0g b o J v:=⟨v,h⟩
 rw [dif_pos hx]
 have h2:=Classical.choose_spec hx
 generalize Classical.choose hx=w at h2
 obtain ⟨⟨S,a1,a2,a3⟩,a4⟩:=h
 obtain ⟨⟨S',b1,b2,b3⟩,b4⟩:=h2
 have h3:=a4 S' b1 b2
 have h4:=b4 S a1 a2
 congr 1
 omega
theorem N6s {s:Station} {people:List Int} {N:Int} {pl d:Nat} {hs:List H5} (st:Star s people N pl d hs) (T:Nat) (hd1:1<=d):N0v s people T=some (min N (K73 hs * ((T+1 - d:Nat):Int))):=by
 unfold N0v
 have hpl:s.Places.toNat=pl:=by rw [st.plE]; simp
 rw [hpl]
 exact N42 (N7p st T hd1)
end Go.Nw.EM
