/- Plain laws on the models. -/
import Derived.Test.YtojneiildpnpiaaNwTp6Src
import Derived.Test.YtojneiildpnpiaaNwCall
import Derived.Test.YtojneiildpnpiaaNwRun2
import Derived.Test.YtojneiildpnpiaaNwHas
import Derived.Test.YtojneiildpnpiaaProg
import Derived.Test.YtojneiildpnpiaaNwVcg
import Derived.Test.YtojneiildpnpiaaNwChain
import Derived.RangeFuncBox
import Derived.RangeFuncLeaves
import Derived.Shelf.Abstract
import Derived.WalkKit
import Derived.OwnWalkIn
import Derived.TacticsInMore
import Derived.LoopNIn
import Derived.LoopIn
import Derived.Sort.LoopGhostIn
import Derived.Lib.Slices
set_option linter.all false
namespace Go.Nw.EM
instance cfg:Cfg:=⟨fun _=>none,fun f=>(["(*newel/drive.motion).with", "(*newel/drive.motion).extreme", "(*newel/ways.net).join", "(*newel/ways.net).levels", "(*newel/ways.net).push", "(*newel/ways.net).fill", "newel/ways.lay"]:List String).contains f⟩
end Go.Nw.EM
namespace Go.Nw.EM
open Go.Proofs Go.Nw.Tp6
set_option maxRecDepth 100000
def gy (o:Option XFunc):XFunc:=match o with|some x=>x|none=>⟨0,[],.skip⟩
noncomputable def y_neweltop_measures:XFunc:=gy (c6p Try.prog [] [] Try.f5)
noncomputable def y_l01_Example:XFunc:=gy (c6p Try.prog [] [] Try.f12)
noncomputable def y_drive_Distance:XFunc:=gy (c6p Try.prog [3,2] [(1000003,4),(1000003,5),(1000006,4),(1000006,5),(14,7),(14,8),(14,100),(14,101),(1000007,7),(1000007,8),(1000007,28),(1000007,30),(1000007,33),(1000007,36)] Try.f11)
noncomputable def y_l03_Example:XFunc:=gy (c6p Try.prog [] [] Try.f13)
noncomputable def y_circuit_Pairs:XFunc:=gy (c6p Try.prog [1,26,17] [] Try.f14)
noncomputable def y_drive_checkStop:XFunc:=gy (c6p Try.prog [3,43,38,33,32,27,26,24,23,18,17,11,2,45] [] Try.f25)
noncomputable def y_drive_run:XFunc:=gy (c6p Try.prog [4,14,11,3] [] Try.f26)
noncomputable def y_circuit_Critical:XFunc:=gy (c6p Try.prog [1,12] [] Try.f27)
noncomputable def y_slices_Contains___int_int_:XFunc:=gy (c6p Try.prog [] [] Try.f28)
noncomputable def y_circuit_weak:XFunc:=gy (c6p Try.prog [2,6] [] Try.f29)
noncomputable def y_drive_Check:XFunc:=gy (c6p Try.prog [1,41,36,29,22,15,10,6] [] Try.f49)
noncomputable def y_drive_to:XFunc:=gy (c6p Try.prog [] [] Try.f51)
noncomputable def y_drive_in:XFunc:=gy (c6p Try.prog [3,11,5] [] Try.f50)
noncomputable def y___drive_motion__extreme:XFunc:=gy (c6p Try.prog [] [] Try.f52)
noncomputable def y_circuit_Check:XFunc:=gy (c6p Try.prog [1,93,69,50,46,41,32,27,22,17,13,9] [] Try.f53)
noncomputable def y_slices_Index___int_int_:XFunc:=gy (c6p Try.prog [] [] Try.f54)
noncomputable def y__circuit_state__wire:XFunc:=gy (c6p Try.prog [2,7,6] [] Try.f55)
noncomputable def y_drive_CheckD1:XFunc:=gy (c6p Try.prog [1,8,3] [] Try.f62)
noncomputable def y___drive_motion__with:XFunc:=gy (c6p Try.prog [] [] Try.f63)
noncomputable def y_slices_Contains___bool_bool_:XFunc:=gy (c6p Try.prog [] [] Try.f64)
noncomputable def y_slices_ContainsFunc___int_int_:XFunc:=gy (c6p Try.prog [] [] Try.f30)
noncomputable def y_circuit_ascending:XFunc:=gy (c6p Try.prog [] [] Try.f67)
noncomputable def y_circuit_CheckD1:XFunc:=gy (c6p Try.prog [] [] Try.f65)
noncomputable def y_circuit_CheckD2:XFunc:=gy (c6p Try.prog [] [] Try.f68)
noncomputable def y__circuit_state__conducts:XFunc:=gy (c6p Try.prog [2,25,20,19,12,5] [] Try.f69)
noncomputable def y__circuit_state__wireD1:XFunc:=gy (c6p Try.prog [] [] Try.f70)
noncomputable def y___drive_motion__grip:XFunc:=gy (c6p Try.prog [] [] Try.f73)
noncomputable def y_drive_tick:XFunc:=gy (c6p Try.prog [4,24,20,16,12] [] Try.f72)
noncomputable def y_slices_Index___bool_bool_:XFunc:=gy (c6p Try.prog [] [] Try.f74)
noncomputable def y_slices_IndexFunc___int_int_:XFunc:=gy (c6p Try.prog [] [] Try.f56)
noncomputable def y_circuit_isSet:XFunc:=gy (c6p Try.prog [] [] Try.f66)
noncomputable def y_drive_ahead:XFunc:=gy (c6p Try.prog [] [] Try.f77)
noncomputable def y_drive_floor:XFunc:=gy (c6p Try.prog [] [] Try.f78)
noncomputable def tbl:List (String × XFunc):=[("newel/neweltop.measures",y_neweltop_measures),("newel/newellaw01.Example",y_l01_Example),("newel/drive.Distance",y_drive_Distance),("newel/newellaw03.Example",y_l03_Example),("newel/circuit.Pairs",y_circuit_Pairs),("newel/drive.checkStop",y_drive_checkStop),("newel/drive.run",y_drive_run),("newel/circuit.Critical",y_circuit_Critical),("slices.Contains[[]int,int]",y_slices_Contains___int_int_),("newel/circuit.weak",y_circuit_weak),("newel/drive.Check",y_drive_Check),("newel/drive.to",y_drive_to),("newel/drive.in",y_drive_in),("(*newel/drive.motion).extreme",y___drive_motion__extreme),("newel/circuit.Check",y_circuit_Check),("slices.Index[[]int,int]",y_slices_Index___int_int_),("(newel/circuit.state).wire",y__circuit_state__wire),("newel/drive.Check$1",y_drive_CheckD1),("(*newel/drive.motion).with",y___drive_motion__with),("slices.Contains[[]bool,bool]",y_slices_Contains___bool_bool_),("slices.ContainsFunc[[]int,int]",y_slices_ContainsFunc___int_int_),("newel/circuit.ascending",y_circuit_ascending),("newel/circuit.Check$1",y_circuit_CheckD1),("newel/circuit.Check$2",y_circuit_CheckD2),("(newel/circuit.state).conducts",y__circuit_state__conducts),("(newel/circuit.state).wire$1",y__circuit_state__wireD1),("(*newel/drive.motion).grip",y___drive_motion__grip),("newel/drive.tick",y_drive_tick),("slices.Index[[]bool,bool]",y_slices_Index___bool_bool_),("slices.IndexFunc[[]int,int]",y_slices_IndexFunc___int_int_),("newel/circuit.isSet",y_circuit_isSet),("newel/drive.ahead",y_drive_ahead),("newel/drive.floor",y_drive_floor)]
theorem l5b:(match c4q tbl 40 "newel/neweltop.measures" [] [] with|some ([.v (.bool true)],_)=>true|_=>false)=true:=by kernel_rfl
theorem hw {n:String} {x:XFunc} (k:Nat) {f0:Func} (bf:List Nat) (fz:List (Nat × Nat)) (hk:Try.prog.funcs[k]?=some f0) (hu:((b2k n).isNone && Try.prog.funcs.toList.zipIdx.all fun p=>p.1.name != n || p.2 == k)=true:=by kernel_rfl) (hc:c6p Try.prog bf fz f0=some x:=by kernel_rfl):Has (b0n Try.prog) n x:=b00 k bf fz hk hu hc
theorem y0r:Has (b0n Try.prog) "newel/neweltop.measures" y_neweltop_measures:=hw 5 [] [] Try.func5
theorem y0p:Has (b0n Try.prog) "newel/newellaw01.Example" y_l01_Example:=hw 12 [] [] Try.func12
theorem y0h:Has (b0n Try.prog) "newel/drive.Distance" y_drive_Distance:=hw 11 [3,2] [(1000003,4),(1000003,5),(1000006,4),(1000006,5),(14,7),(14,8),(14,100),(14,101),(1000007,7),(1000007,8),(1000007,28),(1000007,30),(1000007,33),(1000007,36)] Try.func11
theorem y0q:Has (b0n Try.prog) "newel/newellaw03.Example" y_l03_Example:=hw 13 [] [] Try.func13
theorem y0b:Has (b0n Try.prog) "newel/circuit.Pairs" y_circuit_Pairs:=hw 14 [1,26,17] [] Try.func14
theorem y0j:Has (b0n Try.prog) "newel/drive.checkStop" y_drive_checkStop:=hw 25 [3,43,38,33,32,27,26,24,23,18,17,11,2,45] [] Try.func25
theorem y0m:Has (b0n Try.prog) "newel/drive.run" y_drive_run:=hw 26 [4,14,11,3] [] Try.func26
theorem y0a:Has (b0n Try.prog) "newel/circuit.Critical" y_circuit_Critical:=hw 27 [1,12] [] Try.func27
theorem y0t:Has (b0n Try.prog) "slices.Contains[[]int,int]" y_slices_Contains___int_int_:=hw 28 [] [] Try.func28
theorem y0e:Has (b0n Try.prog) "newel/circuit.weak" y_circuit_weak:=hw 29 [2,6] [] Try.func29
theorem y0f:Has (b0n Try.prog) "newel/drive.Check" y_drive_Check:=hw 49 [1,41,36,29,22,15,10,6] [] Try.func49
theorem y0o:Has (b0n Try.prog) "newel/drive.to" y_drive_to:=hw 51 [] [] Try.func51
theorem y0l:Has (b0n Try.prog) "newel/drive.in" y_drive_in:=hw 50 [3,11,5] [] Try.func50
theorem N7v:Has (b0n Try.prog) "(*newel/drive.motion).extreme" y___drive_motion__extreme:=hw 52 [] [] Try.func52
theorem x97:Has (b0n Try.prog) "newel/circuit.Check" y_circuit_Check:=hw 53 [1,93,69,50,46,41,32,27,22,17,13,9] [] Try.func53
theorem y0v:Has (b0n Try.prog) "slices.Index[[]int,int]" y_slices_Index___int_int_:=hw 54 [] [] Try.func54
theorem x94:Has (b0n Try.prog) "(newel/circuit.state).wire" y__circuit_state__wire:=hw 55 [2,7,6] [] Try.func55
theorem y0g:Has (b0n Try.prog) "newel/drive.Check$1" y_drive_CheckD1:=hw 62 [1,8,3] [] Try.func62
theorem P5m:Has (b0n Try.prog) "(*newel/drive.motion).with" y___drive_motion__with:=hw 63 [] [] Try.func63
theorem y0s:Has (b0n Try.prog) "slices.Contains[[]bool,bool]" y_slices_Contains___bool_bool_:=hw 64 [] [] Try.func64
theorem v0l:Has (b0n Try.prog) "slices.ContainsFunc[[]int,int]" y_slices_ContainsFunc___int_int_:=hw 30 [] [] Try.func30
theorem y0c:Has (b0n Try.prog) "newel/circuit.ascending" y_circuit_ascending:=hw 67 [] [] Try.func67
theorem x98:Has (b0n Try.prog) "newel/circuit.Check$1" y_circuit_CheckD1:=hw 65 [] [] Try.func65
theorem x99:Has (b0n Try.prog) "newel/circuit.Check$2" y_circuit_CheckD2:=hw 68 [] [] Try.func68
theorem P5n:Has (b0n Try.prog) "(newel/circuit.state).conducts" y__circuit_state__conducts:=hw 69 [2,25,20,19,12,5] [] Try.func69
theorem x95:Has (b0n Try.prog) "(newel/circuit.state).wire$1" y__circuit_state__wireD1:=hw 70 [] [] Try.func70
theorem P5l:Has (b0n Try.prog) "(*newel/drive.motion).grip" y___drive_motion__grip:=hw 73 [] [] Try.func73
theorem y0n:Has (b0n Try.prog) "newel/drive.tick" y_drive_tick:=hw 72 [4,24,20,16,12] [] Try.func72
theorem y0u:Has (b0n Try.prog) "slices.Index[[]bool,bool]" y_slices_Index___bool_bool_:=hw 74 [] [] Try.func74
theorem l7c:Has (b0n Try.prog) "slices.IndexFunc[[]int,int]" y_slices_IndexFunc___int_int_:=hw 56 [] [] Try.func56
theorem y0d:Has (b0n Try.prog) "newel/circuit.isSet" y_circuit_isSet:=hw 66 [] [] Try.func66
theorem y0i:Has (b0n Try.prog) "newel/drive.ahead" y_drive_ahead:=hw 77 [] [] Try.func77
theorem y0k:Has (b0n Try.prog) "newel/drive.floor" y_drive_floor:=hw 78 [] [] Try.func78
theorem l5x:∀ p∈tbl,Has (b0n Try.prog) p.1 p.2:=by
 unfold tbl
 simp only [List.forall_mem_cons,List.not_mem_nil,false_implies,implies_true,and_true]
 exact ⟨y0r,y0p,y0h,y0q,y0b,y0j,y0m,y0a,y0t,y0e,y0f,y0o,y0l,N7v,x97,y0v,x94,y0g,P5m,y0s,v0l,y0c,x98,x99,P5n,x95,P5l,y0n,y0u,l7c,y0d,y0i,y0k⟩
theorem l7k:b0n Try.prog "newel/neweltop.measures" [] (B true) []:=by
 have h:=l5b
 split at h
 ·rename_i ob e; exact l44 l5x e
 ·cases h
end Go.Nw.EM
namespace Go.Nw
end Go.Nw
namespace Go.Nw
theorem v02 {O:Orac} {x:XO} {s s':St} (h:wpOp O x s (·=s')) {k:Nat} (hk:x.dst≠some k):s'.t k=s.t k:=by
 have hp:∀ r,(s.put x.dst r).t k=s.t k:=fun r=>by
  unfold St.put
  cases hd:x.dst with
  | none=>rfl
  | some d =>
   have : ¬ k=d:=fun e=>hk (by rw [hd,e])
   simp only [St.set,upd,this,if_false]
 unfold wpOp at h
 cases hw:b2y s x.guard with
 | none=>simp only [hw] at h
 | some b =>
  cases b with
  | false=>simp only [hw] at h; rw [<- h]; exact hp _
  | true =>
   simp only [hw] at h
   split at h
   ·obtain ⟨r,h',_,_,h3⟩:=h; rw [<- h3]; exact hp _
   ·obtain ⟨r,h',_,h3⟩:=h; rw [<- h3]; exact hp _
   ·obtain ⟨n,a,b,_,r,h',_,h3⟩:=h; rw [<- h3]; exact hp _
   ·obtain ⟨_,h3⟩:=h; rw [<- h3]; exact hp _
   ·obtain ⟨r,h',_,h3⟩:=h; rw [<- h3]; exact hp _
def u5d (l:List XO) (n:Nat) (prs:List (Nat × Nat)) (ss:List Nat):Bool :=
 prs.all fun p=>p.2 == n && decide (p.1<n) && match l[p.1]? with
  | some x=>(match x.op.lookX with | .t s=>ss.contains s && ((l.drop p.1).take (n - p.1)).all (fun y=>y.dst != some s)|_=>!x.op.look)
  | none=>true
def u4i (ss:List Nat) (t1:Slots) (h1 h2:Heap):Prop:=∀ s∈ss,∀ id,E65 (t1 s)=some id->h2.ob id=h1.ob id
theorem u7h {O:Orac} {l:List XO} {n:Nat} {prs:List (Nat × Nat)} {ss:List Nat} {Q:XExit->Slots->Heap->Prop} {t:Slots} {h:Heap} (hn:n<l.length) (hp:u5d l n prs ss=true)
  (hw : b0d O (l.take n) (fun t1 h1=>b0d O ((l.drop n).take 1) (fun t2 h2=>u4i ss t1 h1 h2/\b0d O (l.drop (n+1)) (Q .normal) t2 h2) t1 h1) t h):cw O (.regW l prs) Q t h:=by
 letI : Cfg:=⟨fun _=>none,fun _=>false⟩
 have e1:(l.drop n).take 1=[l[n]]:=by rw [List.drop_eq_getElem_cons hn]; rfl
 rw [e1] at hw
 obtain ⟨S,h0,hS,hK⟩:=d6s hw
 obtain ⟨s',h1,h2,h3⟩:=c5b hK
 obtain ⟨S3,g0,gS,gK⟩:=d6s h3
 have hL:(l.take n).length=n:=by rw [List.length_take]; omega
 rw [hL] at h1 h2
 refine ⟨fun i=>if i<=n then S i else S3 (i - n - 1),?_,fun i x hx=>?_,?_,?_⟩
 ·simp only [Nat.zero_le,if_true]; exact h0
 ·by_cases hi:i<n
  ·have e1:i<=n:=Nat.le_of_lt hi
   have e2:i+1<=n:=hi
   simp only [e1,e2,if_true]
   exact hS i x (by rw [List.getElem?_take,if_pos hi]; exact hx)
  ·have e2:¬ i+1<=n:=by omega
   by_cases e:i=n
   ·subst e
    have hx':x=l[i]:=by rw [List.getElem?_eq_getElem hn] at hx; exact (Option.some.inj hx).symm
    subst hx'
    have e4:i+1 - i - 1=0:=by omega
    simp only [Nat.le_refl,if_true,e2,if_false,e4]
    rw [g0]; exact h1
   ·obtain ⟨k,rfl⟩:∃ k,i=n+1+k:=⟨i - n - 1,by omega⟩
    have e3:¬ n+1+k<=n:=by omega
    have e6:n+1+k - n - 1=k:=by omega
    have e7:n+1+k+1 - n - 1=k+1:=by omega
    simp only [e3,e2,if_false,e6,e7]
    exact gS k x (by rw [List.getElem?_drop]; exact hx)
 ·intro j k x z id hjk hj hk hlook _ _ href
  have hq:=List.all_eq_true.1 hp (j,k) hjk
  simp only [Bool.and_eq_true,beq_iff_eq,decide_eq_true_eq] at hq
  obtain ⟨⟨rfl,hjn⟩,hm⟩:=hq
  rw [hj] at hm
  dsimp only at hm
  have e2:¬ k+1<=k:=by omega
  have e3:j<=k:=by omega
  have e4:k+1 - k - 1=0:=by omega
  simp only [Nat.le_refl,if_true,e2,if_false,e4]
  rw [g0]
  simp only [e3,if_true] at href
  cases hx:x.op.lookX with
  | t s =>
   rw [hx] at hm href
   simp only [Bool.and_eq_true,List.contains_iff_mem,List.all_eq_true,bne_iff_ne,ne_eq] at hm
   have same:∀ d,j+d<=k->(S (j+d)).t s=(S j).t s:=by
    intro d
    induction d with
    | zero=>intro _; rfl
    | succ d ih =>
     intro hd
     obtain ⟨y,hy⟩:∃ y,l[j+d]?=some y:=⟨_,List.getElem?_eq_getElem (by omega)⟩
     have hw:=hS (j+d) y (by rw [List.getElem?_take,if_pos (by omega)]; exact hy)
     have hne:y.dst≠some s:=hm.2 y (by
      have : ((l.drop j).take (k - j))[d]?=some y:=by rw [List.getElem?_take,if_pos (by omega),List.getElem?_drop]; exact hy
      exact List.mem_of_getElem? this)
     rw [show j+(d+1)=j+d+1 by omega,v02 hw hne]
     exact ih (by omega)
   have := same (k - j) (by omega)
   rw [show j+(k - j)=k by omega] at this
   exact h2 s hm.1 id (by rw [this]; exact href)
  | tf s=>rw [hx] at hm; simp [hlook] at hm
  | c v=>rw [hx] at hm; simp [hlook] at hm
  | f nm=>rw [hx] at hm; simp [hlook] at hm
  | g a b=>rw [hx] at hm; simp [hlook] at hm
 ·have e2:¬ l.length<=n:=by omega
  have e4:(l.drop (n+1)).length=l.length - n - 1:=by rw [List.length_drop]; omega
  simp only [e2,if_false]
  rw [<- e4]
  exact gK
theorem u7g {O:Orac} {l:List XO} {n:Nat} {prs:List (Nat × Nat)} {b:XCode} {Q:XExit->Slots->Heap->Prop} {t:Slots} {h:Heap} (ss:List Nat) (post:Slots->Heap->Prop) (hn:n<l.length) (hp:u5d l n prs ss=true)
  (h1 : ∀ K:Slots->Heap->Prop,(∀ t h,post t h->K t h)->b0d O (l.take n) (fun t1 h1=>b0d O ((l.drop n).take 1) (fun t2 h2=>u4i ss t1 h1 h2/\b0d O (l.drop (n+1)) K t2 h2) t1 h1) t h)
  (h2 : ∀ t h,post t h->cw O b Q t h):cw O (.seq (.regW l prs) b) Q t h:=by
 rw [b9z]; exact u7h hn hp (h1 _ h2)
end Go.Nw
namespace Go.Proofs
open Go.RowKit Go.Shelf
attribute [local go_sem] Oper.semAt_some
set_option maxHeartbeats 2000000 in
set_option maxRecDepth 100000 in
theorem N53 (b off n c:Nat) (zs:List Int) (x:Int) (w:World) (hz:n<=zs.length) (hbig:n<=9223372036854775807) (hc:∀ j,j<zs.length->w.cell? ⟨b,off+j,none⟩=some (.int .i64 (zs.getD j 0))) :
  CallsIn Fence.wide 0 Try.prog 54 #[.slice (some ⟨b,off,none⟩) n c,.int .i64 x] w fun e w'=>e = .returned (.int .i64 (Lib.idxOf (zs.take n) x))/\w'=w:=by
 refine callsIn_of_wp Try.func54 rfl trivial ?_ rfl
 simp only [Try.ntmps54,List.size_toArray,List.length_cons,List.length_nil,Nat.reduceAdd,Nat.reduceSub,Array.replicate_succ,Array.replicate_zero,List.push_toArray,List.append_toArray,List.nil_append,List.cons_append]
 gi_wp2
 gi_loopg [8] n (fun g s8 wr=>∃ k:Nat,k<=n/\n - k<=g/\s8 = .int .i64 k/\wr=w/\∀ j,j<k->zs.getD j 0≠x)
 case atStart=>exact ⟨0,Nat.zero_le _,by omega,rfl,rfl,fun j hj=>absurd hj (Nat.not_lt_zero _)⟩
 case round =>
  obtain ⟨k,hk,hg,rfl,rfl,hne⟩:=hrel
  have A:Aside (∀ j,j<k->zs.getD j 0≠x):=hne
  clear hne
  by_cases hlt:k<n
  ·have ck:wr.cell? ⟨b,off+k,none⟩=some (.int .i64 (zs.getD k 0)):=hc k (by omega)
   clear hc
   generalize hy:zs.getD k 0=y at ck
   have Y:Aside (zs.getD k 0=y):=hy
   clear hy
   by_cases hxy:x=y
   ·subst hxy
    gi_wp2
    go_ret
    refine ⟨?_,rfl⟩
    rw [Lib.idxOf_hit zs n k x hlt hz Y.out A.out]
    rfl
   ·gi_wp2
    gi_roundg (n - (k+1))
    case measure=>omega
    case rel =>
     refine ⟨k+1,by omega,Nat.le_refl _,by go_num,rfl,fun j hj=>?_⟩
     by_cases e:j=k
     ·subst e
      rw [Y.out]
      exact fun h=>hxy h.symm
     ·exact A.out j (by omega)
  ·have : k=n:=by omega
   subst this
   clear hc
   gi_wp2
   go_ret
   refine ⟨?_,rfl⟩
   rw [Lib.idxOf_miss zs k x A.out]
   rfl
set_option maxHeartbeats 2000000 in
set_option maxRecDepth 100000 in
theorem N1w (b off n c:Nat) (zs:List Int) (x:Int) (w:World) (hz:n<=zs.length) (hbig:n<=9223372036854775807) (hc:∀ j,j<zs.length->w.cell? ⟨b,off+j,none⟩=some (.int .i64 (zs.getD j 0))) :
  CallsIn Fence.wide 1 Try.prog 28 #[.slice (some ⟨b,off,none⟩) n c,.int .i64 x] w fun e w'=>e = .returned (.bool ((zs.take n).contains x))/\w'=w:=by
 have hb:(zs.take n).contains x=decide (0<=Lib.idxOf (zs.take n) x):=by
  rw [Bool.eq_iff_iff,decide_eq_true_eq,Lib.idxOf_nonneg_iff]
 rw [hb]
 refine callsIn_of_wp Try.func28 rfl trivial ?_ rfl
 simp only [Try.ntmps28,List.size_toArray,List.length_cons,List.length_nil,Nat.reduceAdd,Nat.reduceSub,Array.replicate_succ,Array.replicate_zero,List.push_toArray,List.append_toArray,List.nil_append,List.cons_append]
 gi_wp2
 refine ⟨trivial,(N53 b off n c zs x _ hz hbig hc).mono ?_⟩
 rintro e w' ⟨rfl,rfl⟩
 gi_wp2
 go_ret
 exact ⟨rfl,rfl⟩
end Go.Proofs
namespace Go.Proofs
open Go.RowKit Go.Shelf
attribute [local go_sem] Oper.semAt_some
structure Pas where
 A : Int
 B : Int
 Kind : Int
 Ticks : Int
 Wide : Int
 Machine : Int
 Still : Int
 deriving Inhabited
def Pas.cells (p:Pas):List Int:=[p.A,p.B,p.Kind,p.Ticks,p.Wide,p.Machine,p.Still]
abbrev Hd:=Int × Int × Int × Int × Int
def itA (ex:List Int) (i:Nat) (p:Pas):List Hd:=if ex.contains p.A then [] else [((i:Int),p.A,p.B,p.Ticks,p.Wide)]
def itB (ex:List Int) (i:Nat) (p:Pas):List Hd:=if ex.contains p.B then [] else [((i:Int),p.B,p.A,p.Ticks,p.Wide)]
def o12 (ps:List Pas) (ex:List Int) (k:Nat):List Hd:=(List.range k).flatMap fun i=>itA ex i (ps.getD i default)++itB ex i (ps.getD i default)
theorem itUp_succ (ps:List Pas) (ex:List Int) (k:Nat):o12 ps ex (k+1)=o12 ps ex k++itA ex k (ps.getD k default)++itB ex k (ps.getD k default):=by
 simp [o12,List.range_succ]
theorem N54 (ps:List Pas) (ex:List Int) {k n:Nat} (h:k<=n):(o12 ps ex k).length<=(o12 ps ex n).length:=by
 induction n with
 | zero=>have:k=0:=by omega
         subst this; exact Nat.le_refl _
 | succ n ih =>
  by_cases e:k=n+1
  ·subst e; exact Nat.le_refl _
  ·have := ih (by omega)
   rw [itUp_succ]; simp; omega
theorem K61 {W W':World} {b:Nat} (h:W'.heap[b]?=W.heap[b]?) (o:Nat):W'.cell? ⟨b,o,none⟩=W.cell? ⟨b,o,none⟩:=by simp [World.cell?,h]
def hdV (x:Hd):Value:=.agg #[.int .i64 x.1,.int .i64 x.2.1,.int .i64 x.2.2.1,.int .i64 x.2.2.2.1,.int .i64 x.2.2.2.2]
def M98 (p:Pas):Obj:=.cells #[.int .i64 p.A,.int .i64 p.B,.int .i64 p.Kind,.int .i64 p.Ticks,.int .i64 p.Wide,.int .i64 p.Machine,.int .i64 p.Still] 27
set_option maxRecDepth 100000 in
set_option maxHeartbeats 2000000 in
theorem N50 (l b1 o1 bp op be oe capp cape:Nat) (ptr2:Option Addr) (ps:List Pas) (ex:List Int) (hps:ps.length<1000) (hex:ex.length<1000) (hkind:∀ p∈ps,p.Kind≠3/\p.Kind≠4) (S:Nat->Prop) (hS1:S b1) (hSp:S bp) (hSe:S be)
  (W : World) (hSl:∀ k,S k->k<W.heap.size) (J:List Hd->(Nat->Prop)->World->Prop) (own0:Nat->Prop)
  (hJ : ∀ s own A B row,J s own A->A.grownBy B row->(∀ r,row=some r->W.heap.size<=r/\∃ o:Obj,A.heap[r]?=some o/\o.isWalk=true)->J s own B)
  (hB : ∀ s own A k,J s own A->own k->k<A.heap.size) (hSS:∀ s own A k,J s own A->S k->¬ own k)
  (hY : ∀ pre x own W1,x∈o12 ps ex ps.length->J pre own W1->pre.length<(o12 ps ex ps.length).length->YieldAt Fence.wide 1 Try.prog l #[hdV x] W1 fun e W' =>
   e = .returned (.bool true)/\∃ own',J (pre++[x]) own' W'/\W1.heap.size<=W'.heap.size/\∀ k,k<W1.heap.size->¬ own k->W'.heap[k]?=W1.heap[k]?/\¬ own' k)
  (h1 : W.cell? ⟨b1,o1+1,none⟩=some (.slice (some ⟨bp,op,none⟩) ps.length capp)) (h2:W.cell? ⟨b1,o1+2,none⟩=some (.slice (some ⟨be,oe,none⟩) ex.length cape))
  (hp : ∀ i k x,i<ps.length->(ps.getD i default).cells[k]?=some x->W.cell? ⟨bp,op+i * 7+k,none⟩=some (.int .i64 x)) (he:∀ j,j<ex.length->W.cell? ⟨be,oe+j,none⟩=some (.int .i64 (ex.getD j 0))) (h0:J [] own0 W) :
  CallsIn Fence.wide 2 Try.prog 58 #[.func (.yield l) #[] #[],.pointer (some ⟨b1,o1,none⟩),.pointer ptr2] W fun e W'=>(∃ v,e = .returned v)/\∃ own',J (o12 ps ex ps.length) own' W':=by
 refine callsIn_of_wp Try.func58 rfl trivial ?_ rfl
 simp only [Try.ntmps58,List.size_toArray,List.length_cons,List.length_nil,Nat.reduceAdd,Nat.reduceSub,Array.replicate_succ,Array.replicate_zero,List.push_toArray,List.append_toArray,List.nil_append,List.cons_append]
 gi_wp2
 gi_loopw [11] (fun i wr=>∃ (k:Nat) (own:Nat->Prop),k<=ps.length/\i = .int .i64 k/\J (o12 ps ex k) own wr/\W.heap.size<=wr.heap.size/\∀ blk,S blk->wr.heap[blk]?=W.heap[blk]?) (fun i _=>ps.length - (intOf i).toNat)
 case atStart=>exact ⟨0,own0,Nat.zero_le _,rfl,h0,Nat.le_refl _,fun _ _=>rfl⟩
 case round =>
  obtain ⟨k,own,hk,rfl,hJk,hsz,hS⟩:=hrel
  by_cases hlt:k<ps.length
  ·generalize hpk:ps.getD k default=p
   have hpm:p∈ps:=by
    rw [<- hpk,List.getD_eq_getElem?_getD,List.getElem?_eq_getElem hlt]
    exact List.getElem_mem hlt
   obtain ⟨hk3,hk4⟩:=hkind p hpm
   have cp:∀ j x,p.cells[j]?=some x->wr.cell? ⟨bp,op+k * 7+j,none⟩=some (.int .i64 x):=fun j x hx=>(K61 (hS bp hSp) _).trans (hp k j x hlt (by rw [hpk]; exact hx))
   have c0:wr.cell? ⟨bp,op+k * 7,none⟩=some (.int .i64 p.A):=cp 0 _ rfl
   have c1:wr.cell? ⟨bp,op+k * 7+1,none⟩=some (.int .i64 p.B):=cp 1 _ rfl
   have c2:wr.cell? ⟨bp,op+k * 7+2,none⟩=some (.int .i64 p.Kind):=cp 2 _ rfl
   have c3:wr.cell? ⟨bp,op+k * 7+3,none⟩=some (.int .i64 p.Ticks):=cp 3 _ rfl
   have c4:wr.cell? ⟨bp,op+k * 7+4,none⟩=some (.int .i64 p.Wide):=cp 4 _ rfl
   have c5:wr.cell? ⟨bp,op+k * 7+5,none⟩=some (.int .i64 p.Machine):=cp 5 _ rfl
   have c6:wr.cell? ⟨bp,op+k * 7+6,none⟩=some (.int .i64 p.Still):=cp 6 _ rfl
   have hkb:(p.Kind == 3)=false:=by simpa using hk3
   have hJ2:J (o12 ps ex k) own (wr.alloc (M98 p)):=hJ _ _ _ _ none hJk (World.grownBy_alloc wr _ none) (fun r e=>by cases e)
   have hSa:∀ blk,S blk->(wr.alloc (M98 p)).heap[blk]?=W.heap[blk]?:=fun blk hb=>(Below.heap_alloc wr _ blk (by have:=hSl blk hb; omega)).trans (hS blk hb)
   have d2:(wr.alloc (M98 p)).cell? ⟨b1,o1+2,none⟩=some (.slice (some ⟨be,oe,none⟩) ex.length cape):=(K61 (hSa b1 hS1) _).trans h2
   have heA:∀ j,j<ex.length->(wr.alloc (M98 p)).cell? ⟨be,oe+j,none⟩=some (.int .i64 (ex.getD j 0)):=fun j hj=>(K61 (hSa be hSe) _).trans (he j hj)
   have qA:∀ j x,p.cells[j]?=some x->(wr.alloc (M98 p)).cell? ⟨wr.heap.size,j,none⟩=some (.int .i64 x):=fun j x hx=>by
    have := World.cell?_alloc_mark wr (p.cells.map (Value.int .i64)).toArray 27 (0,0) j
    have e:(Obj.cells (p.cells.map (Value.int .i64)).toArray 27)=M98 p:=rfl
    rw [e] at this
    rw [this]
    simp [hx]
   have hnr:¬ own wr.heap.size:=fun ho=>by have:=hB _ _ _ _ hJk ho; omega
   have hszA:(wr.alloc (M98 p)).heap.size=wr.heap.size+1:=by simp
   unfold M98 at d2
   gi_wp2
   simp only [show (Obj.cells #[.int .i64 p.A,.int .i64 p.B,.int .i64 p.Kind,.int .i64 p.Ticks,.int .i64 p.Wide,.int .i64 p.Machine,.int .i64 p.Still] 27:Obj)=M98 p from rfl] at d2 ⊢
   generalize wr.alloc (M98 p)=W2 at *
   have hcA:=N1w be oe ex.length cape ex p.A W2 (Nat.le_refl _) (by omega) heA
   rw [List.take_length] at hcA
   refine ⟨trivial,hcA.mono ?_⟩
   rintro e w' ⟨rfl,rfl⟩
   have q0:w'.cell? ⟨wr.heap.size,0,none⟩=some (.int .i64 p.A):=qA 0 _ rfl
   have q1:w'.cell? ⟨wr.heap.size,1,none⟩=some (.int .i64 p.B):=qA 1 _ rfl
   have q4:w'.cell? ⟨wr.heap.size,4,none⟩=some (.int .i64 p.Wide):=qA 4 _ rfl
   have hend:∀ own3 W3,J (o12 ps ex k++itA ex k p++itB ex k p) own3 W3->J (o12 ps ex (k+1)) own3 W3:=fun own3 W3 h=>by rw [itUp_succ,hpk]; exact h
   have hmem:∀ x,x∈itA ex k p\/x∈itB ex k p->x∈o12 ps ex ps.length:=fun x hx=>by
    unfold o12
    rw [List.mem_flatMap]
    exact ⟨k,List.mem_range.2 hlt,by rw [hpk,List.mem_append]; exact hx⟩
   have hlenU:=N54 ps ex (show k+1<=ps.length by omega)
   rw [itUp_succ,hpk,List.length_append,List.length_append] at hlenU
   by_cases cA:ex.contains p.A=true
   ·rw [cA]
    have eA:itA ex k p=[]:=by unfold itA; rw [if_pos cA]
    rw [eA] at hend hlenU
    simp only [List.append_nil] at hend
    gi_wp2
    refine ⟨fun f e=>(by cases e),?_⟩
    gi_wp2
    have hcB:=N1w be oe ex.length cape ex p.B w' (Nat.le_refl _) (by omega) heA
    rw [List.take_length] at hcB
    refine ⟨trivial,hcB.mono ?_⟩
    rintro e wB ⟨rfl,rfl⟩
    by_cases cB:ex.contains p.B=true
    ·rw [cB]
     have eB:itB ex k p=[]:=by unfold itB; rw [if_pos cB]
     rw [eB] at hend
     simp only [List.append_nil] at hend
     gi_wp2
     go_roundw
     case rel=>exact ⟨k+1,own,by omega,by simp,hend _ _ hJ2,by omega,hSa⟩
     case measure=>simp [intOf]; omega
    ·rw [Bool.not_eq_true] at cB
     rw [cB]
     have eB:itB ex k p=[((k:Int),p.B,p.A,p.Ticks,p.Wide)]:=by unfold itB; rw [cB]; rfl
     rw [eB] at hend hlenU hmem
     obtain ⟨fn,tmps,assign,body,hy,hR⟩:=hY _ ((k:Int),p.B,p.A,p.Ticks,p.Wide) _ wB (hmem _ (.inr (by simp))) hJ2 (by simp at hlenU ⊢; omega)
     dsimp only [hdV] at hy
     gi_wp2
     refine hR.mono ?_
     clear hR hy
     rintro e W4 ⟨rfl,own4,hJ4,hsz4,hfr4⟩
     have hS4:∀ blk,S blk->W4.heap[blk]?=W.heap[blk]?:=fun blk hb=>((hfr4 blk (by have:=hSl blk hb; omega) (hSS _ _ _ _ hJ2 hb)).1).trans (hSa blk hb)
     gi_wp2
     go_roundw
     case rel=>exact ⟨k+1,own4,by omega,by simp,hend _ _ hJ4,by omega,hS4⟩
     case measure=>simp [intOf]; omega
   ·rw [Bool.not_eq_true] at cA
    rw [cA]
    have eA:itA ex k p=[((k:Int),p.A,p.B,p.Ticks,p.Wide)]:=by unfold itA; rw [cA]; rfl
    rw [eA] at hend hlenU hmem
    obtain ⟨fn,tmps,assign,body,hy,hR⟩:=hY _ ((k:Int),p.A,p.B,p.Ticks,p.Wide) own w' (hmem _ (.inl (by simp))) hJ2 (by simp at hlenU ⊢; omega)
    dsimp only [hdV] at hy
    gi_wp2
    refine hR.mono ?_
    clear hR hy
    rintro e W3 ⟨rfl,own3,hJ3,hsz3,hfr3⟩
    have hS3:∀ blk,S blk->W3.heap[blk]?=W.heap[blk]?:=fun blk hb=>((hfr3 blk (by have:=hSl blk hb; omega) (hSS _ _ _ _ hJ2 hb)).1).trans (hSa blk hb)
    have hr3:W3.heap[wr.heap.size]?=w'.heap[wr.heap.size]?:=(hfr3 _ (by omega) hnr).1
    have d3:W3.cell? ⟨b1,o1+2,none⟩=some (.slice (some ⟨be,oe,none⟩) ex.length cape):=(K61 (hS3 b1 hS1) _).trans h2
    have r0:W3.cell? ⟨wr.heap.size,0,none⟩=some (.int .i64 p.A):=(K61 hr3 _).trans q0
    have r1:W3.cell? ⟨wr.heap.size,1,none⟩=some (.int .i64 p.B):=(K61 hr3 _).trans q1
    have r4:W3.cell? ⟨wr.heap.size,4,none⟩=some (.int .i64 p.Wide):=(K61 hr3 _).trans q4
    have he3:∀ j,j<ex.length->W3.cell? ⟨be,oe+j,none⟩=some (.int .i64 (ex.getD j 0)):=fun j hj=>(K61 (hS3 be hSe) _).trans (he j hj)
    gi_wp2
    have hcB:=N1w be oe ex.length cape ex p.B W3 (Nat.le_refl _) (by omega) he3
    rw [List.take_length] at hcB
    refine ⟨trivial,hcB.mono ?_⟩
    rintro e wB ⟨rfl,rfl⟩
    by_cases cB:ex.contains p.B=true
    ·rw [cB]
     have eB:itB ex k p=[]:=by unfold itB; rw [if_pos cB]
     rw [eB] at hend
     simp only [List.append_nil] at hend
     gi_wp2
     refine ⟨fun f e=>(by cases e),?_⟩
     gi_wp2
     go_roundw
     case rel=>exact ⟨k+1,own3,by omega,by simp,hend _ _ hJ3,by omega,hS3⟩
     case measure=>simp [intOf]; omega
    ·rw [Bool.not_eq_true] at cB
     rw [cB]
     have eB:itB ex k p=[((k:Int),p.B,p.A,p.Ticks,p.Wide)]:=by unfold itB; rw [cB]; rfl
     rw [eB] at hend hlenU hmem
     obtain ⟨fn,tmps,assign,body,hy,hR⟩:=hY _ ((k:Int),p.B,p.A,p.Ticks,p.Wide) _ wB (hmem _ (.inr (by simp))) hJ3 (by simp at hlenU ⊢; omega)
     dsimp only [hdV] at hy
     gi_wp2
     refine hR.mono ?_
     clear hR hy
     rintro e W4 ⟨rfl,own4,hJ4,hsz4,hfr4⟩
     have hS4:∀ blk,S blk->W4.heap[blk]?=W.heap[blk]?:=fun blk hb=>((hfr4 blk (by have:=hSl blk hb; omega) (hSS _ _ _ _ hJ3 hb)).1).trans (hS3 blk hb)
     gi_wp2
     go_roundw
     case rel=>exact ⟨k+1,own4,by omega,by simp,hend _ _ hJ4,by omega,hS4⟩
     case measure=>simp [intOf]; omega
  ·obtain rfl:k=ps.length:=by omega
   gi_wp2
   go_end0
   exact ⟨⟨_,rfl⟩,own,hJk⟩
end Go.Proofs
