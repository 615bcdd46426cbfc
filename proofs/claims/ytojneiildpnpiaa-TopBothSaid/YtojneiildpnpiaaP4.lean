/- Plain laws on the models. -/
import Derived.Test.YtojneiildpnpiaaP2
import Derived.Test.YtojneiildpnpiaaP3
import Derived.Test.YtojneiildpnpiaaP1
import Derived.Test.YtojneiildpnpiaaNwWcall
import Derived.Test.YtojneiildpnpiaaR1
import Derived.Test.YtojneiildpnpiaaNwTp6Src
set_option linter.all false
namespace Go.Nw
open Go.Nw.Fl
def eE (e:Arc):List AV:=[I e.to,I e.room,I e.back,I e.mv.1,I e.mv.2.1,I e.mv.2.2.1,I e.mv.2.2.2]
structure NetC where
 pl : Int
 v1 : AV
 v2 : AV
 tk : Int
 bg : Nat
 ou : Nat
def NetC.cells (c:NetC) (vE:AV):List AV:=[I c.pl,c.v1,c.v2,I c.tk,vE,I c.bg,I c.ou]
structure NetH (h:Heap) (b:Nat) (c:NetC) (vE:AV) (hs:List AV) (E:Net):Prop where
 box : h.ob b=some (7,[c.cells vE])
 rr : RR h vE hs 7 eE E
 off : s8i vE hs b
 lt : b<h.nx
section
variable {h h':Heap} {b:Nat} {c:NetC} {vE:AV} {hs:List AV} {E:Net}
theorem N2g (N:NetH h b c vE hs E) (hb:h'.ob b=h.ob b) (hk:∀ j,¬ s8i vE hs j->j<h.nx->h'.ob j=h.ob j) (hn:h.nx<=h'.nx):NetH h' b c vE hs E :=
 ⟨hb.trans N.box,r8j N.rr hk hn,N.off,Nat.lt_of_lt_of_le N.lt hn⟩
theorem l19 {α:Type} {l:List α} {u:Nat} {x:α} (h:l[u]?=some x):get l (u:Int)=some x:=by
 unfold get
 rw [if_pos (Int.natCast_nonneg u)]
 exact h
theorem K33 (u:Nat):(0:Int)<=(u:Int):=Int.natCast_nonneg u
theorem N62 (N:NetH h b c vE hs E) {u:Nat} {r:List Arc} (hr:E[u]?=some r) {w:AV} (hw:hs[u]?=some w) {iq lo n:Nat} (hq:vE = .rs iq lo n) {e:Arc} {id m:Nat} (hid:h.nx<=id) (hm:m=r.length+1)
  (ho : h'.ob id=some (7,List.map eE (r++[e]))) (hi:id<h'.nx) (hoq:h'.ob iq=some (1,List.map eW (hs.set u (.rs id 0 m))))
  (hk : ∀ j,j<h.nx->¬ j=iq->b07 w j->h'.ob j=h.ob j) (hn:h.nx<=h'.nx):NetH h' b c vE (hs.set u (.rs id 0 m)) (E.set u (r++[e])):=by
 subst hq
 have hbq:¬ b=iq:=fun e=>N.off.1 (by rw [e])
 have hbw:b07 w b:=N.off.2 w (mG9 hw)
 refine ⟨(hk b N.lt hbq hbw).trans N.box,?_,?_,Nat.lt_of_lt_of_le N.lt hn⟩
 ·have := s1v (h':=h') (i:=(u:Int)) (u:=.rs id 0 m) (y:=r++[e]) N.rr (l19 hr) (by rw [Int.toNat_natCast]; exact hoq) (.inr ⟨id,by simp [hm],ho,hi⟩)
   (fun k hk2=>by
    have : id=k:=by simpa [b07] using hk2
    subst this
    exact r7w N.rr hid)
   (fun j hj hne hni hl=>hk j hl hne (hni w (by rw [Int.toNat_natCast]; exact hw))) hn
  rw [Int.toNat_natCast] at this
  exact this
 ·refine r86 N.off (b1y ?_)
  have := N.lt
  omega
end
structure Grew (h:Heap) (vE:AV) (hs:List AV) (h':Heap) (hs':List AV):Prop where
 rn : ∀ j,j<h.nx->s8i vE hs j->s8i vE hs' j
 nx : h.nx<=h'.nx
 ob : ∀ j,j<h.nx->s8i vE hs j->h'.ob j=h.ob j
 nm : b67 h->b67 h'
theorem Grew.refl (h:Heap) (vE:AV) (hs:List AV):Grew h vE hs h hs:=⟨fun _ _ h=>h,Nat.le_refl _,fun _ _ _=>rfl,fun h=>h⟩
theorem Grew.trans {h h1 h2:Heap} {vE:AV} {hs hs1 hs2:List AV} (a:Grew h vE hs h1 hs1) (c:Grew h1 vE hs1 h2 hs2):Grew h vE hs h2 hs2 :=
 ⟨fun j hl hj=>c.rn j (Nat.lt_of_lt_of_le hl a.nx) (a.rn j hl hj),Nat.le_trans a.nx c.nx,fun j hl hj=>(c.ob j (Nat.lt_of_lt_of_le hl a.nx) (a.rn j hl hj)).trans (a.ob j hl hj),fun h=>c.nm (a.nm h)⟩
theorem K5u {h:Heap} {n:Nat} {rows:List (List AV)} (hm:b67 h) (hn:n≠0):b67 (h.new (n,rows)):=by
 intro id es he
 simp only [Heap.new] at he
 split at he
 ·cases he; exact hn rfl
 ·exact hm id es he
theorem K6g {h:Heap} {i n:Nat} {rows:List (List AV)} (hm:b67 h) (hn:n≠0):b67 (h.upd i (some (n,rows))):=by
 intro id es he
 simp only [Heap.upd] at he
 split at he
 ·cases he; exact hn rfl
 ·exact hm id es he
theorem K8t {h:Heap} {i:Nat} (hm:b67 h):b67 (h.upd i none):=by
 intro id es he
 simp only [Heap.upd] at he
 split at he
 ·cases he
 ·exact hm id es he
theorem K8s {h:Heap} {v:AV} {n:Nat} {rows:List (List AV)} (hm:b67 h) (hn:n≠0):b67 (b5y h v (n,rows)):=by
 unfold b5y
 split
 ·exact K5u (K8t hm) hn
 ·exact K5u hm hn
theorem K7h:b67 Heap.empty:=fun _ _ h=>by cases h
theorem N3a {h:Heap} {b:Nat} {c:NetC} {hs:List AV} {E:Net} {iq lo n:Nat} (N:NetH h b c (.rs iq lo n) hs E) (hoq:h.ob iq=some (1,List.map eW hs)) (lq:iq<h.nx) {u:Nat} {r r':List Arc} {e:Arc} (hr:E[u]?=some r) (hr':r'=r++[e]) {w:AV} (hw:get hs (u:Int)=some w) (x:List (List AV)) :
  NetH ((b5y (h.new (7,x)) w (7,List.map eE r')).upd iq (some (1,List.map eW (hs.set (u:Int).toNat (.rs (nxs h.nx) 0 r'.length))))) b c (.rs iq lo n) (hs.set u (.rs (nxs h.nx) 0 r'.length)) (E.set u r') /\
   Grew h (.rs iq lo n) hs ((b5y (h.new (7,x)) w (7,List.map eE r')).upd iq (some (1,List.map eW (hs.set (u:Int).toNat (.rs (nxs h.nx) 0 r'.length))))) (hs.set u (.rs (nxs h.nx) 0 r'.length)):=by
 subst hr'
 have hwn:=r7l N.rr hw
 have hw':=b8j hw
 rw [Int.toNat_natCast] at hw' ⊢
 have hne:∀ j,j<h.nx->¬ j=iq->b07 w j->((b5y (h.new (7,x)) w (7,List.map eE (r++[e]))).upd iq (some (1,List.map eW (hs.set u (.rs (nxs h.nx) 0 (r++[e]).length))))).ob j=h.ob j:=fun j hj hq hn=>by
  rw [g3s hq,g55 hn (by rw [l0m]; simp only [nxs]; omega),d4e hj]
 have hnx:((b5y (h.new (7,x)) w (7,List.map eE (r++[e]))).upd iq (some (1,List.map eW (hs.set u (.rs (nxs h.nx) 0 (r++[e]).length))))).nx=nxs (nxs h.nx):=by rw [H1t,g54,l0m]
 refine ⟨N62 N hr hw' rfl (id:=nxs h.nx) (by simp only [nxs]; omega) (by simp) ?_ (by rw [hnx]; simp only [nxs]; omega) (c53 rfl) hne (by rw [hnx]; simp only [nxs]; omega),fun j hl hj=>r86 hj (b1y ?_),by rw [hnx]; simp only [nxs]; omega,fun j hl hj=>hne j hl (fun e=>hj.1 e.symm) (hj.2 w (mG9 hw')),fun hm=>K6g (K8s (K5u hm (by decide)) (by decide)) (by decide)⟩
 ·rw [g3s (by simp only [nxs]; omega),g53 (by rw [l0m])]
 ·simp only [nxs]; omega
def b36 (E:Net) (u:Nat):List Arc:=E.getD u []
def P1e (E:Net) (u v:Nat) (room:Int) (mv:Int × Int × Int × Int):Net :=
 let E1:=E.set u (b36 E u++[⟨v,room,(b36 E v).length,mv⟩])
 E1.set v (b36 E1 v++[⟨u,0,(b36 E1 u).length - 1,(-1,0,0,0)⟩])
theorem K37 {E:Net} {u:Nat} (hu:u<E.length):E[u]?=some (b36 E u):=by
 unfold b36
 rw [List.getD_eq_getElem?_getD,gG9 hu]
 rfl
end Go.Nw
namespace Go.Nw.EM
open Go.Nw.Tp6 Go.Nw.Fl
set_option maxHeartbeats 4000000
variable {O:Orac}
def mvC (m:Int × Int × Int × Int):List AV:=[I m.1,I m.2.1,I m.2.2.1,I m.2.2.2]
theorem N23 {ss:List Nat} {t1:Slots} {h1 h2:Heap} {b:Nat} (h:∀ s∈ss,E65 (t1 s)=some b) (hb:h2.ob b=h1.ob b):u4i ss t1 h1 h2:=fun s hs id hid=>by
 rw [h s hs] at hid
 cases hid
 exact hb
theorem N6c (hf:Has O "(*newel/ways.net).join" x___ways_net__join) {h:Heap} {b:Nat} {c:NetC} {vE:AV} {hs:List AV} {E:Net} (N:NetH h b c vE hs E) {u v:Nat} (hu:u<E.length) (hv:v<E.length) (hne:u≠v) {room:Int} {mv:Int × Int × Int × Int}
  (hr : ∀ u,(b36 E u).length<1000000):b6e O "(*newel/ways.net).join" [.rp b 0 0,I u,I v,I room,.agg (mvC mv)] h (fun r h'=>r = .tup []/\∃ hs',NetH h' b c vE hs' (P1e E u v room mv)/\Grew h vE hs h' hs'):=by
 refine d8g hf rfl ?_
 obtain ⟨iq,rfl,oq,lq⟩:=r97 N.rr (l19 (K37 hu))
 refine b1c (fun t h1=>t 0 = .rp b 0 0/\t 1=I u/\t 2=I v/\t 3=I room/\t 4 = .agg (mvC mv)/\h1=h) ⟨rfl,rfl,rfl,rfl,rfl,rfl⟩ fun t h1 ⟨s0,s1,s2,s3,s4,hh⟩=>?_
 subst hh
 simp only [x___ways_net__join]
 refine b0b fun K hK=>?_
 simp only [go_sem,s4,mvC]
 refine hK _ _ ?_
 clear hK K
 have hbq:¬ b=iq:=fun e=>N.off.1 (by rw [e])
 have hlu:=hr u
 have hlv:=hr v
 generalize he:(⟨v,room,(b36 E v).length,mv⟩:Arc)=e
 refine u7g (n:=25) [10,11,12] (fun t h2=>∃ hs2,t 0 = .rp b 0 0/\t 1=I u/\t 2=I v/\t 3=I room/\NetH h2 b c (.rs iq 0 E.length) hs2 (E.set u (b36 E u++[e]))/\Grew h1 (.rs iq 0 E.length) hs h2 hs2/\h2.ob iq=some (1,List.map eW hs2)/\iq<h2.nx) (by decide) (by decide) (fun K hK=>?_) ?_
 ·obtain ⟨w,hw,ow⟩:=r96 N.rr (l19 (K37 hu))
  obtain ⟨w2,hw2,ow2⟩:=r96 N.rr (l19 (K37 hv))
  have box:=N.box
  have hui:(u:Int)<(E.length:Int):=by omega
  have hvi:(v:Int)<(E.length:Int):=by omega
  have hbw:=r7k N.off hw
  have hqw:=r7l N.rr hw
  have hqw2:=r7l N.rr hw2
  have lb:=N.lt
  simp only [go_sem,s0,s1,s2,s3,box,NetC.cells,oq,K33,hui,hvi,d8j,b3n hw,b3n hw2,b08 hw,eW,b5r w,b5r w2,l3r ow2,l3r ow]
  refine b3a (f:=eE) (l:=b36 E u) (m:=[e]) (r:=b36 E u++[e]) ?_ ?_ ?_ ?_ (b9k (by simp only [List.length_cons,List.length_nil]; omega)) ?_
  ·exact b3x ow (by intro j hj hl; simp only [d4e hl]) (by simp only [go_sem,nxs]; omega)
  ·subst he
   exact b4t (by simp only [go_sem,eE,List.map_cons,List.map_nil]) (by simp)
  ·exact b4r (b1v ow (Nat.le_refl _))
  ·exact fun _=>by simp
  have hap:∀ (x:List (List AV)) j,j<h1.nx->b07 w j->(b5y (h1.new (7,x)) w (7,List.map eE (b36 E u++[e]))).ob j=h1.ob j:=fun x j hj hw=>by
   rw [g55 hw (by simp only [go_sem,nxs]; omega),d4e hj]
  simp only [g9h]
  refine ⟨N23 (b:=b) (fun s hs=>?_) (by rw [d4e lb]; exact hap _ b lb hbw),?_⟩
  ·simp only [List.mem_cons,List.not_mem_nil,or_false] at hs
   rcases hs with rfl|rfl|rfl <;> simp only [go_sem] <;> rfl
  simp only [go_sem,hap _ iq lq hqw,oq,K33,hui,d8j,b3n hw,eW]
  obtain ⟨g1,g2⟩:=N3a N oq lq (K37 hu) rfl hw _ (e:=e)
  exact hK _ _ ⟨_,by simp only [go_sem,s0],by simp only [go_sem,s1],by simp only [go_sem,s2],by simp only [go_sem,s3],g1,g2,by rw [Int.toNat_natCast]; exact c53 rfl,by simp only [go_sem,nxs]; omega⟩
 ·clear s0 s1 s2 s3 s4
  rintro t h2 ⟨hs2,s0,s1,s2,s3,N2,G2,oq2,lq2⟩
  have hu2:u<(E.set u (b36 E u++[e])).length:=by simpa using hu
  have hv2:v<(E.set u (b36 E u++[e])).length:=by simpa using hv
  have hru:b36 (E.set u (b36 E u++[e])) u=b36 E u++[e]:=by
   unfold b36
   rw [List.getD_eq_getElem?_getD,List.getElem?_set_self hu]; rfl
  have hrv:b36 (E.set u (b36 E u++[e])) v=b36 E v:=by
   unfold b36
   rw [List.getD_eq_getElem?_getD,List.getElem?_set_ne hne,<- List.getD_eq_getElem?_getD]
  have hEl:(E.set u (b36 E u++[e])).length=E.length:=by simp
  generalize hE2:E.set u (b36 E u++[e])=E2 at *
  obtain ⟨w,hw,ow⟩:=r96 N2.rr (l19 (K37 hv2))
  obtain ⟨w2,hw2,ow2⟩:=r96 N2.rr (l19 (K37 hu2))
  have box:=N2.box
  have hui:(u:Int)<(E.length:Int):=by omega
  have hvi:(v:Int)<(E.length:Int):=by omega
  have hbw:=r7k N2.off hw
  have hqw:=r7l N2.rr hw
  have lb:=N2.lt
  have hll:(b36 E2 u).length=(b36 E u).length+1:=by rw [hru]; simp
  have hwr:IntKind.i64.wrap (((b36 E2 u).length:Int) - 1)=(((b36 E2 u).length - 1:Nat):Int):=by
   rw [g3z (by omega) (by omega)]; omega
  refine u7h (n:=25) (ss:=[37,38,39]) (by decide) (by decide) ?_
  simp only [go_sem,s0,s1,s2,s3,box,NetC.cells,oq2,K33,hui,hvi,d8j,b3n hw,b3n hw2,b08 hw,eW,b5r w,b5r w2,l3r ow2,l3r ow,hwr]
  generalize he2:(⟨u,0,(b36 E2 u).length - 1,(-1,0,0,0)⟩:Arc)=e2
  refine b3a (f:=eE) (l:=b36 E2 v) (m:=[e2]) (r:=b36 E2 v++[e2]) ?_ ?_ ?_ ?_ (b9k (by rw [hrv]; simp only [List.length_cons,List.length_nil]; omega)) ?_
  ·exact b3x ow (by intro j hj hl; simp only [d4e hl]) (by simp only [go_sem,nxs]; omega)
  ·subst he2
   exact b4t (by simp only [go_sem,eE,List.map_cons,List.map_nil]) (by simp)
  ·exact b4r (b1v ow (Nat.le_refl _))
  ·exact fun _=>by simp
  have hap:∀ (x:List (List AV)) j,j<h2.nx->b07 w j->(b5y (h2.new (7,x)) w (7,List.map eE (b36 E2 v++[e2]))).ob j=h2.ob j:=fun x j hj hw=>by
   rw [g55 hw (by simp only [go_sem,nxs]; omega),d4e hj]
  simp only [g9h]
  refine ⟨N23 (b:=b) (fun s hs=>?_) (by rw [d4e lb]; exact hap _ b lb hbw),?_⟩
  ·simp only [List.mem_cons,List.not_mem_nil,or_false] at hs
   rcases hs with rfl|rfl|rfl <;> simp only [go_sem] <;> rfl
  simp only [go_sem,hap _ iq lq2 hqw,oq2,K33,hvi,d8j,b3n hw,eW]
  obtain ⟨g1,g2⟩:=N3a N2 oq2 lq2 (K37 hv2) rfl hw _ (e:=e2)
  refine ⟨[],rfl,(rfl:E6z [] = .tup []),_,?_,G2.trans g2⟩
  have ej:P1e E u v room mv=E2.set v (b36 E2 v++[e2]):=by
   unfold P1e
   simp only [he,hE2,he2]
  rw [ej]
  exact g1
theorem N6j (hf:Has O "(*newel/ways.net).node" x___ways_net__node) (pl p k:Int) (h1:0<=pl/\pl<1000) (h2:0<=p/\p<1000) (h3:0<=k/\k<1000):Fn O "(*newel/ways.net).node" [.fp [I pl,.dead,.dead,.dead,.dead,.dead,.dead] 0,I p,I k] (I (pl * k+p)):=by
 refine b1i hf rfl (b0a (.fp _ _ (b0a (b0e _) (b0a .dead (b0a .dead (b0a .dead (b0a .dead (b0a .dead (b0a .dead b0j)))))))) (b0a (b0e _) (b0a (b0e _) b0j))) (b0e _) ?_
 refine b1c (fun t h=>t 0 = .fp [I pl,.dead,.dead,.dead,.dead,.dead,.dead] 0/\t 1=I p/\t 2=I k) ⟨rfl,rfl,rfl⟩ fun t h ⟨s0,s1,s2⟩=>?_
 simp only [x___ways_net__node]
 refine b0b fun K hK=>?_
 simp only [go_sem]
 refine hK _ _ ?_
 clear hK K
 have hm:0<=pl * k:=Int.mul_nonneg h1.1 h3.1
 have hm2:pl * k<=999 * 999:=Int.mul_le_mul (by omega) (by omega) h3.1 (by omega)
 have e1:IntKind.i64.wrap (pl * k)=pl * k:=g3z (by omega) (by omega)
 have e2:IntKind.i64.wrap (pl * k+p)=pl * k+p:=g3z (by omega) (by omega)
 refine b0b fun K hK=>?_
 simp only [go_sem,s0,s1,s2,e1,e2]
 refine hK _ _ ?_
 clear hK K
 simp only [b0x,b1p,b0y]
 exact b04 (by simp only [go_sem]) (b0e _)
end Go.Nw.EM
namespace Go.Nw
open Go.Nw.Fl
section
variable {E:Net} {u v:Nat} {room:Int} {mv:Int × Int × Int × Int}
theorem N13:(P1e E u v room mv).length=E.length:=by
 unfold P1e; simp
theorem N2p {E:Net} {u:Nat} {r:List Arc} (hu:u<E.length):b36 (E.set u r) u=r:=by
 unfold b36
 rw [List.getD_eq_getElem?_getD,List.getElem?_set_self hu]; rfl
theorem N1n {E:Net} {u v:Nat} {r:List Arc} (h:u≠v):b36 (E.set u r) v=b36 E v:=by
 unfold b36
 rw [List.getD_eq_getElem?_getD,List.getElem?_set_ne h,<- List.getD_eq_getElem?_getD]
theorem N0u (hu:u<E.length) (hv:v<E.length) (hne:u≠v) (x:Nat):b36 (P1e E u v room mv) x=if x=u then b36 E u++[⟨v,room,(b36 E v).length,mv⟩] else if x=v then b36 E v++[⟨u,0,(b36 E u).length,(-1,0,0,0)⟩] else b36 E x:=by
 unfold P1e
 simp only
 rw [N2p hu,N1n hne]
 by_cases e1:x=u
 ·subst e1
  rw [if_pos rfl,N1n (fun e=>hne e.symm),N2p hu]
 ·rw [if_neg e1]
  by_cases e2:x=v
  ·subst e2
   rw [if_pos rfl,N2p (by simpa using hv)]
   simp
  ·rw [if_neg e2,N1n (fun e=>e2 e.symm),N1n (fun e=>e1 e.symm)]
theorem N0r {E:Net} {x j:Nat}:at_ E x j=(b36 E x)[j]?:=by
 unfold at_ b36
 rw [List.getD_eq_getElem?_getD]
 cases E[x]? <;> rfl
theorem N6a (hu:u<E.length) (hv:v<E.length) (hne:u≠v) {x j:Nat} {e:Arc} (h:at_ E x j=some e):at_ (P1e E u v room mv) x j=some e:=by
 rw [N0r] at h ⊢
 have hj:=(gS9.1 h).1
 rw [N0u hu hv hne]
 split
 ·rename_i e1; subst e1
  rw [List.getElem?_append_left hj]; exact h
 ·split
  ·rename_i e1; subst e1
   rw [List.getElem?_append_left hj]; exact h
  ·exact h
theorem N2z {α:Type} {l:List α} {a x:α} {j:Nat} (h:(l++[a])[j]?=some x):l[j]?=some x\/(j=l.length/\x=a):=by
 by_cases hj:j<l.length
 ·rw [List.getElem?_append_left hj] at h; exact .inl h
 ·rw [List.getElem?_append_right (by omega)] at h
  cases e:j - l.length with
  | zero=>rw [e] at h; simp at h; exact .inr ⟨by omega,h.symm⟩
  | succ m=>rw [e] at h; simp at h
theorem N56 (hu:u<E.length) (hv:v<E.length) (hne:u≠v) {x j:Nat} {e:Arc} (h:at_ (P1e E u v room mv) x j=some e):at_ E x j=some e\/(x=u/\j=(b36 E u).length/\e=⟨v,room,(b36 E v).length,mv⟩)\/(x=v/\j=(b36 E v).length/\e=⟨u,0,(b36 E u).length,(-1,0,0,0)⟩):=by
 rw [N0r,N0u hu hv hne] at h
 rw [N0r]
 split at h
 ·rename_i e1; subst e1
  rcases N2z h with h|⟨h1,h2⟩
  ·exact .inl h
  ·exact .inr (.inl ⟨rfl,h1,h2⟩)
 ·split at h
  ·rename_i e1; subst e1
   rcases N2z h with h|⟨h1,h2⟩
   ·exact .inl h
   ·exact .inr (.inr ⟨rfl,h1,h2⟩)
  ·exact .inl h
theorem N58 (hu:u<E.length) (hv:v<E.length) (hne:u≠v):at_ (P1e E u v room mv) u (b36 E u).length=some ⟨v,room,(b36 E v).length,mv⟩:=by
 rw [N0r,N0u hu hv hne,if_pos rfl,List.getElem?_concat_length]
theorem N59 (hu:u<E.length) (hv:v<E.length) (hne:u≠v):at_ (P1e E u v room mv) v (b36 E v).length=some ⟨u,0,(b36 E u).length,(-1,0,0,0)⟩:=by
 rw [N0r,N0u hu hv hne,if_neg (fun e=>hne e.symm),if_pos rfl,List.getElem?_concat_length]
theorem N57 (G:Fl.Good E) (hu:u<E.length) (hv:v<E.length) (hne:u≠v) (h0:0<=room) (h1:room<=1099511627776):Fl.Good (P1e E u v room mv):=by
 refine ⟨fun x j e h=>?_⟩
 rw [N13]
 rcases N56 hu hv hne h with h|⟨rfl,rfl,rfl⟩|⟨rfl,rfl,rfl⟩
 ·obtain ⟨g1,g2,g3,e',g4,g5⟩:=G.p x j e h
  exact ⟨g1,g2,g3,e',N6a hu hv hne g4,g5⟩
 ·exact ⟨hv,fun e=>hne e.symm,h0,_,N59 hu hv hne,rfl,rfl,by show room+0<=_; omega⟩
 ·exact ⟨hu,hne,Int.le_refl _,_,N58 hu hv hne,rfl,rfl,by show 0+room<=_; omega⟩
theorem N3l (S:Nat->Bool) (a:Arc):∀ r:List Arc,P1h S (r++[a])=P1h S r+(if S a.to then 0 else a.room)
 | []=>by simp [P1h]
 | x :: r=>by simp only [List.cons_append,P1h,N3l S a r]; omega
theorem N3f (S:Nat->Bool) {E:Net} {u:Nat} {a:Arc} (hu:u<E.length):out S (E.set u (b36 E u++[a]))=out S E+(if S u then (if S a.to then 0 else a.room) else 0):=by
 unfold out
 rw [N2k S E 0 u _ _ (K37 hu),N3l,Nat.zero_add]
 split <;> omega
theorem N6b (S:Nat->Bool) (hu:u<E.length) (hv:v<E.length) (hne:u≠v):out S (P1e E u v room mv)=out S E+(if S u=true/\S v=false then room else 0):=by
 unfold P1e
 simp only
 rw [N3f S (by simpa using hv),N3f S hu]
 cases S u <;> cases S v <;> simp
end
abbrev J4':=Nat × Nat × Int × (Int × Int × Int × Int)
def K59 (n:Nat) (J:List J4'):Net:=J.foldl (fun E j=>P1e E j.1 j.2.1 j.2.2.1 j.2.2.2) (List.replicate n [])
structure OkJ (n:Nat) (j:J4'):Prop where
 u : j.1<n
 v : j.2.1<n
 ne : j.1≠j.2.1
 r0 : 0<=j.2.2.1
 r1 : j.2.2.1<=1099511627776
theorem N61 (n:Nat) (J:List J4') (j:J4'):K59 n (J++[j])=P1e (K59 n J) j.1 j.2.1 j.2.2.1 j.2.2.2:=by
 unfold K59; rw [List.foldl_append]; rfl
theorem N29 (n:Nat) (J:List J4'):(K59 n J).length=n:=by
 have key:∀ (J:List J4') (E:Net),(J.foldl (fun E j=>P1e E j.1 j.2.1 j.2.2.1 j.2.2.2) E).length=E.length:=by
  intro J
  induction J with
  | nil=>intro E; rfl
  | cons j J ih=>intro E; rw [List.foldl_cons,ih,N13]
 unfold K59
 rw [key,List.length_replicate]
def M97 (S:Nat->Bool):List J4'->Int
 | []=>0
 | j :: r=>(if S j.1=true/\S j.2.1=false then j.2.2.1 else 0)+M97 S r
theorem N28 {n:Nat} {J:List J4'} (h:∀ j∈J,OkJ n j):Fl.Good (K59 n J)/\(∀ S,out S (K59 n J)=M97 S J)/\∀ u,(b36 (K59 n J) u).length<=J.length:=by
 have key:∀ (J:List J4') (E:Net),E.length=n->Fl.Good E->(∀ j∈J,OkJ n j)->let E':=J.foldl (fun E j=>P1e E j.1 j.2.1 j.2.2.1 j.2.2.2) E; Fl.Good E'/\(∀ S,out S E'=out S E+M97 S J)/\∀ u,(b36 E' u).length<=(b36 E u).length+J.length:=by
  intro J
  induction J with
  | nil=>intro E _ G _; exact ⟨G,fun S=>by simp [M97],fun u=>by simp⟩
  | cons j J ih =>
   intro E hE G hj
   have o:=hj j List.mem_cons_self
   have hu:j.1<E.length:=by rw [hE]; exact o.u
   have hv:j.2.1<E.length:=by rw [hE]; exact o.v
   obtain ⟨g1,g2,g3⟩:=ih (P1e E j.1 j.2.1 j.2.2.1 j.2.2.2) (by rw [N13]; exact hE) (N57 G hu hv o.ne o.r0 o.r1) fun x hx=>hj x (List.mem_cons_of_mem _ hx)
   refine ⟨g1,fun S=>?_,fun u=>?_⟩
   ·have := g2 S
    rw [N6b S hu hv o.ne] at this
    simp only [List.foldl_cons,M97]
    rw [this]; omega
   ·have := g3 u
    rw [N0u hu hv o.ne] at this
    simp only [List.foldl_cons,List.length_cons]
    split at this
    ·rename_i e; subst e; simp at this; omega
    ·split at this
     ·rename_i e; subst e; simp at this; omega
     ·omega
 have hz:∀ u i e,at_ (List.replicate n ([]:List Arc)) u i=some e->False:=fun u i e h=>by
  obtain ⟨r,h1,h2⟩:=N0e h
  rw [List.getElem?_replicate] at h1
  split at h1
  ·cases h1; simp at h2
  ·cases h1
 obtain ⟨g1,g2,g3⟩:=key J (List.replicate n []) (by simp) ⟨fun u i e h=>(hz u i e h).elim⟩ h
 refine ⟨g1,fun S=>?_,fun u=>?_⟩
 ·have := g2 S
  rw [N3h S (fun u i e h _ _=>(hz u i e h).elim)] at this
  unfold K59
  rw [this]; omega
 ·have := g3 u
  have e:(b36 (List.replicate n ([]:List Arc)) u).length=0:=by
   unfold b36
   rw [List.getD_eq_getElem?_getD,List.getElem?_replicate]
   split <;> rfl
  unfold K59
  omega
end Go.Nw
