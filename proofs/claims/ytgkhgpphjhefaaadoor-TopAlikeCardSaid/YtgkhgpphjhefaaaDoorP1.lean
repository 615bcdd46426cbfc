/- Plain laws on the models. -/
import Derived.Test.YtgkhgpphjhefaaaDoorNwTp2Src
import Derived.Test.YtgkhgpphjhefaaaDoorNwCall
import Derived.Test.YtgkhgpphjhefaaaDoorRows
import Derived.LaidMore
import Derived.OpenShut
import Derived.MakeChecks
import Derived.Deep.Strs
import Derived.Test.YtgkhgpphjhefaaaDoorNwRun2
import Derived.Test.YtgkhgpphjhefaaaDoorNwHas
import Derived.Test.YtgkhgpphjhefaaaDoorProg
import Derived.Test.YtgkhgpphjhefaaaDoorNwVcg
import Derived.Test.YtgkhgpphjhefaaaDoorNwChain
import Derived.RangeFuncBox
import Derived.RangeFuncLeaves
import Derived.Shelf.Abstract
import Derived.WalkKit
import Derived.OwnWalkIn
import Derived.TacticsInMore
import Derived.LoopNIn
import Derived.LoopIn
set_option linter.all false
namespace Go.Nw.UM
open Go.Proofs Go.Nw.Tp2 Go.RowKit Go.Deep
instance cfg:Cfg:=⟨fun g=>if g=0 then some b6h else none,fun f=>(["(newel/situation.Plant).set", "slices.Reverse[[]int,int]", "(*newel/drive.motion).with", "(*newel/drive.motion).extreme"]:List String).contains f⟩
theorem g8z {w:World} {a:Addr} {v:Value} (h:w.cell? a=some v):a.block<w.heap.size:=by
 unfold World.cell? at h
 split at h
 ·rename_i hb; exact (Array.getElem?_eq_some_iff.1 hb).1
 ·cases h
theorem d8c:b50.length=8:=rfl
theorem j7f {W:World} (h:laidMetH Tryd.prog [("newel/newelref04.words",YtgkhgpphjhefaaaDoor.Rows.laid_newel_newelref04_words)] W):r7j Tryd.prog W (fun b=>b<W.heap.size):=by
 rw [MakeChecks.laidMetH_plain _ _ _ (by kernel_rfl)] at h
 obtain ⟨ps,⟨g0,t0,cs0,f0,p0,q0,hg0,ht0,hv0,hd0,_,_⟩,_,_⟩:=h
 obtain rfl:=Option.some.inj ((show Tryd.prog.globalNamed "newel/newelref04.words"=some 0 by kernel_rfl).symm.trans hg0)
 obtain rfl:=Option.some.inj ((show (Tryd.prog.globals[0]?).map (·.type)=some 22 by kernel_rfl).symm.trans ht0)
 have size:∀ {n:String} {g:Nat} {cs:Array Value},Tryd.prog.globalNamed n=some g->W.var? Tryd.prog n=some cs->g<W.heap.size:=by
  intro n g cs hg hv
  simp only [World.var?,hg,bS9] at hv
  split at hv
  ·rename_i e; exact (Array.getElem?_eq_some_iff.1 e).1
  ·cases hv
 have hs:=size hg0 hv0
 intro g cs hg
 by_cases z:g=0
 case neg =>
  have : Cfg.tab g=none:=by show (if g=0 then some b6h else none)=none; rw [if_neg z]
  rw [this] at hg; cases hg
 subst z
 obtain rfl:b6h=cs:=Option.some.inj hg
 refine ⟨hs,hs,fun j c hj=>?_⟩
 have hw:(YtgkhgpphjhefaaaDoor.Rows.laid_newel_newelref04_words (H:=Unit)) = .slice (b50.map fun s=>.lit (.string s)) []:=rfl
 rcases open_strs (e:=9) (by kernel_rfl) (by kernel_rfl) (by kernel_rfl) hd0 with ⟨_,h2⟩|⟨a,len,cap,m,Sx,hc,_,hlc,hcm,hm,hx,hcell⟩
 ·rw [hw] at h2; cases h2
 simp only [if_true] at hm
 subst hm
 rw [hw] at hx
 simp only [Prod.mk.injEq,DataW.slice.injEq] at hx
 have hlen:len=8:=by have:=congrArg List.length hx.1.1; simpa [d8c] using this.symm
 have hcap:m=len:=by have:=congrArg List.length hx.1.2; simp at this; omega
 subst hlen; subst hcap
 have hsx:∀ i,i<8->∃ x,b50[i]?=some x/\Sx i=⟨x.toArray⟩:=fun i hi=>by
  have := congrArg (fun l:List (DataW Unit)=>l[i]?) hx.1.1
  simp only [List.getElem?_map,List.getElem?_range hi,Option.map_some] at this
  obtain ⟨x,h1,h2⟩:=mE9.1 this
  refine ⟨x,h1,?_⟩
  simp only [DataW.lit.injEq,Lit.string.injEq] at h2
  rw [h2]
 obtain ⟨b,o,spot⟩:=a
 have hspot:spot=none:=by
  have h1:=(hcell 0 (by decide)).1
  simpa [Addr.add] using World.cell?_spot h1
 subst hspot
 have hadd:∀ k,(⟨b,o,none⟩:Addr).add k=⟨b,o+k,none⟩:=fun k=>by
  unfold Addr.add; by_cases hk:k=0 <;> simp [hk]
 have hb0:b<W.heap.size:=by
  have h1:=(hcell 0 (by decide)).1
  have := g8z h1
  rwa [hadd] at this
 cases j with
 | succ j=>simp [b6h] at hj
 | zero =>
  obtain rfl:GC.sl 1 (b50.map fun s=>[.string ⟨s.toArray⟩])=c:=by simpa [b6h] using hj
  refine ⟨.slice (some ⟨b,o,none⟩) 8 8,?_,rfl,?_⟩
  ·rw [World.var?_cell hg0 hv0 0,<- Array.getElem?_toList,hc]; rfl
  ·have hl:((b50.map fun s=>[Value.string ⟨s.toArray⟩]).map (List.map AV.v)).length=8:=rfl
   have hat:∀ i j c,at2 ((b50.map fun s=>[Value.string ⟨s.toArray⟩]).map (List.map AV.v)) i j=some c->i<8/\j=0/\c = .v (.string (Sx i)):=fun i j c hh=>by
    unfold at2 at hh
    obtain ⟨row,h1,h2⟩:=bE9.1 hh
    simp only [List.map_map,List.getElem?_map,mE9] at h1
    obtain ⟨x,h3,h4⟩:=h1
    have hi:i<8:=by have:=(gS9.1 h3).1; simpa [d8c] using this
    obtain ⟨x',h5,h6⟩:=hsx i hi
    rw [h3] at h5; cases h5
    subst h4
    cases j with
    | zero=>simp at h2; subst h2; exact ⟨hi,rfl,by rw [h6]⟩
    | succ j=>simp at h2
   have sim:SimV Tryd.prog W (fun b=>b<W.heap.size) Heap.empty (fun _=>(0,0)) (.fs 1 ((b50.map fun s=>[Value.string ⟨s.toArray⟩]).map (List.map AV.v))) (.slice (some ⟨b,o,none⟩) ((b50.map fun s=>[Value.string ⟨s.toArray⟩]).map (List.map AV.v)).length 8):=by
    refine .fs 1 _ b o 8 (by rw [hl]; exact Nat.le_refl _) hb0 (fun e he=>?_) (fun i _=>.string (Sx i)) (fun i j c hh=>?_) (fun i j c hh=>rfl) (fun i j c hh=>?_)
    ·obtain ⟨r,h1,rfl⟩:=List.mem_map.1 he
     obtain ⟨s,_,rfl⟩:=List.mem_map.1 h1
     rfl
    ·obtain ⟨h1,rfl,_⟩:=hat i j c hh
     have := (hcell i h1).1
     rw [hadd] at this
     rw [Nat.mul_one,Nat.add_zero]; exact this
    ·obtain ⟨_,_,rfl⟩:=hat i j c hh
     exact .v _
   rw [hl] at sim
   exact sim
theorem g9w (os:Os) (args:Array Value):laidMetH Tryd.prog [("newel/newelref04.words",YtgkhgpphjhefaaaDoor.Rows.laid_newel_newelref04_words)] ((World.doorLaid Tryd.prog 400 os).forCall (fun _ _=>0) ⟨#[],args,[]⟩).memory :=
 laidMetH_of_parts3 (fuel:=8) (laidMet_of_run' 8 (by kernel_rfl) (by kernel_rfl)) (by kernel_rfl) (by kernel_rfl)
end Go.Nw.UM
namespace Go.Nw.UM
open Go.Proofs Go.Nw.Tp2
set_option maxRecDepth 100000
def gy (o:Option XFunc):XFunc:=match o with|some x=>x|none=>⟨0,[],.skip⟩
noncomputable def y_neweltop_measures:XFunc:=gy (c6p Tryd.prog [] [] Tryd.f10)
noncomputable def y_l01_Example:XFunc:=gy (c6p Tryd.prog [] [] Tryd.f31)
noncomputable def y_drive_Distance:XFunc:=gy (c6p Tryd.prog [3,2] [(1000003,4),(1000003,5),(1000006,4),(1000006,5),(14,7),(14,8),(14,100),(14,101),(1000007,7),(1000007,8),(1000007,28),(1000007,30),(1000007,33),(1000007,36)] Tryd.f30)
noncomputable def y_l03_Example:XFunc:=gy (c6p Tryd.prog [] [] Tryd.f32)
noncomputable def y_circuit_Pairs:XFunc:=gy (c6p Tryd.prog [1,26,17] [] Tryd.f33)
noncomputable def y_drive_checkStop:XFunc:=gy (c6p Tryd.prog [3,43,38,33,32,27,26,24,23,18,17,11,2,45] [] Tryd.f63)
noncomputable def y_drive_run:XFunc:=gy (c6p Tryd.prog [4,14,11,3] [] Tryd.f64)
noncomputable def y_circuit_Critical:XFunc:=gy (c6p Tryd.prog [1,12] [] Tryd.f65)
noncomputable def y_slices_Contains___int_int_:XFunc:=gy (c6p Tryd.prog [] [] Tryd.f66)
noncomputable def y_circuit_weak:XFunc:=gy (c6p Tryd.prog [2,6] [] Tryd.f67)
noncomputable def y_drive_Check:XFunc:=gy (c6p Tryd.prog [1,41,36,29,22,15,10,6] [] Tryd.f90)
noncomputable def y_drive_to:XFunc:=gy (c6p Tryd.prog [] [] Tryd.f92)
noncomputable def y_drive_in:XFunc:=gy (c6p Tryd.prog [3,11,5] [] Tryd.f91)
noncomputable def y___drive_motion__extreme:XFunc:=gy (c6p Tryd.prog [] [] Tryd.f93)
noncomputable def y_circuit_Check:XFunc:=gy (c6p Tryd.prog [1,93,69,50,46,41,32,27,22,17,13,9] [] Tryd.f94)
noncomputable def y_slices_Index___int_int_:XFunc:=gy (c6p Tryd.prog [] [] Tryd.f95)
noncomputable def y__circuit_state__wire:XFunc:=gy (c6p Tryd.prog [2,7,6] [] Tryd.f96)
noncomputable def y_drive_CheckD1:XFunc:=gy (c6p Tryd.prog [1,8,3] [] Tryd.f104)
noncomputable def y___drive_motion__with:XFunc:=gy (c6p Tryd.prog [] [] Tryd.f105)
noncomputable def y_slices_Contains___bool_bool_:XFunc:=gy (c6p Tryd.prog [] [] Tryd.f106)
noncomputable def y_slices_ContainsFunc___int_int_:XFunc:=gy (c6p Tryd.prog [] [] Tryd.f107)
noncomputable def y_circuit_ascending:XFunc:=gy (c6p Tryd.prog [] [] Tryd.f110)
noncomputable def y_circuit_CheckD1:XFunc:=gy (c6p Tryd.prog [] [] Tryd.f108)
noncomputable def y_circuit_CheckD2:XFunc:=gy (c6p Tryd.prog [] [] Tryd.f111)
noncomputable def y__circuit_state__conducts:XFunc:=gy (c6p Tryd.prog [2,25,20,19,12,5] [] Tryd.f112)
noncomputable def y__circuit_state__wireD1:XFunc:=gy (c6p Tryd.prog [] [] Tryd.f113)
noncomputable def y___drive_motion__grip:XFunc:=gy (c6p Tryd.prog [] [] Tryd.f119)
noncomputable def y_drive_tick:XFunc:=gy (c6p Tryd.prog [4,24,20,16,12] [] Tryd.f118)
noncomputable def y_slices_Index___bool_bool_:XFunc:=gy (c6p Tryd.prog [] [] Tryd.f120)
noncomputable def y_slices_IndexFunc___int_int_:XFunc:=gy (c6p Tryd.prog [] [] Tryd.f121)
noncomputable def y_circuit_isSet:XFunc:=gy (c6p Tryd.prog [] [] Tryd.f109)
noncomputable def y_drive_ahead:XFunc:=gy (c6p Tryd.prog [] [] Tryd.f123)
noncomputable def y_drive_floor:XFunc:=gy (c6p Tryd.prog [] [] Tryd.f125)
noncomputable def tbl:List (String × XFunc):=[("newel/neweltop.measures",y_neweltop_measures),("newel/newellaw01.Example",y_l01_Example),("newel/drive.Distance",y_drive_Distance),("newel/newellaw03.Example",y_l03_Example),("newel/circuit.Pairs",y_circuit_Pairs),("newel/drive.checkStop",y_drive_checkStop),("newel/drive.run",y_drive_run),("newel/circuit.Critical",y_circuit_Critical),("slices.Contains[[]int,int]",y_slices_Contains___int_int_),("newel/circuit.weak",y_circuit_weak),("newel/drive.Check",y_drive_Check),("newel/drive.to",y_drive_to),("newel/drive.in",y_drive_in),("(*newel/drive.motion).extreme",y___drive_motion__extreme),("newel/circuit.Check",y_circuit_Check),("slices.Index[[]int,int]",y_slices_Index___int_int_),("(newel/circuit.state).wire",y__circuit_state__wire),("newel/drive.Check$1",y_drive_CheckD1),("(*newel/drive.motion).with",y___drive_motion__with),("slices.Contains[[]bool,bool]",y_slices_Contains___bool_bool_),("slices.ContainsFunc[[]int,int]",y_slices_ContainsFunc___int_int_),("newel/circuit.ascending",y_circuit_ascending),("newel/circuit.Check$1",y_circuit_CheckD1),("newel/circuit.Check$2",y_circuit_CheckD2),("(newel/circuit.state).conducts",y__circuit_state__conducts),("(newel/circuit.state).wire$1",y__circuit_state__wireD1),("(*newel/drive.motion).grip",y___drive_motion__grip),("newel/drive.tick",y_drive_tick),("slices.Index[[]bool,bool]",y_slices_Index___bool_bool_),("slices.IndexFunc[[]int,int]",y_slices_IndexFunc___int_int_),("newel/circuit.isSet",y_circuit_isSet),("newel/drive.ahead",y_drive_ahead),("newel/drive.floor",y_drive_floor)]
theorem l5b:(match c4q tbl 40 "newel/neweltop.measures" [] [] with|some ([.v (.bool true)],_)=>true|_=>false)=true:=by kernel_rfl
theorem hw {n:String} {x:XFunc} (k:Nat) {f0:Func} (bf:List Nat) (fz:List (Nat × Nat)) (hk:Tryd.prog.funcs[k]?=some f0) (hu:((b2k n).isNone && Tryd.prog.funcs.toList.zipIdx.all fun p=>p.1.name != n || p.2 == k)=true:=by kernel_rfl) (hc:c6p Tryd.prog bf fz f0=some x:=by kernel_rfl):Has (b0n Tryd.prog) n x:=b00 k bf fz hk hu hc
theorem y0r:Has (b0n Tryd.prog) "newel/neweltop.measures" y_neweltop_measures:=hw 10 [] [] Tryd.func10
theorem y0p:Has (b0n Tryd.prog) "newel/newellaw01.Example" y_l01_Example:=hw 31 [] [] Tryd.func31
theorem y0h:Has (b0n Tryd.prog) "newel/drive.Distance" y_drive_Distance:=hw 30 [3,2] [(1000003,4),(1000003,5),(1000006,4),(1000006,5),(14,7),(14,8),(14,100),(14,101),(1000007,7),(1000007,8),(1000007,28),(1000007,30),(1000007,33),(1000007,36)] Tryd.func30
theorem y0q:Has (b0n Tryd.prog) "newel/newellaw03.Example" y_l03_Example:=hw 32 [] [] Tryd.func32
theorem y0b:Has (b0n Tryd.prog) "newel/circuit.Pairs" y_circuit_Pairs:=hw 33 [1,26,17] [] Tryd.func33
theorem y0j:Has (b0n Tryd.prog) "newel/drive.checkStop" y_drive_checkStop:=hw 63 [3,43,38,33,32,27,26,24,23,18,17,11,2,45] [] Tryd.func63
theorem y0m:Has (b0n Tryd.prog) "newel/drive.run" y_drive_run:=hw 64 [4,14,11,3] [] Tryd.func64
theorem y0a:Has (b0n Tryd.prog) "newel/circuit.Critical" y_circuit_Critical:=hw 65 [1,12] [] Tryd.func65
theorem y0t:Has (b0n Tryd.prog) "slices.Contains[[]int,int]" y_slices_Contains___int_int_:=hw 66 [] [] Tryd.func66
theorem y0e:Has (b0n Tryd.prog) "newel/circuit.weak" y_circuit_weak:=hw 67 [2,6] [] Tryd.func67
theorem y0f:Has (b0n Tryd.prog) "newel/drive.Check" y_drive_Check:=hw 90 [1,41,36,29,22,15,10,6] [] Tryd.func90
theorem y0o:Has (b0n Tryd.prog) "newel/drive.to" y_drive_to:=hw 92 [] [] Tryd.func92
theorem y0l:Has (b0n Tryd.prog) "newel/drive.in" y_drive_in:=hw 91 [3,11,5] [] Tryd.func91
theorem x90:Has (b0n Tryd.prog) "(*newel/drive.motion).extreme" y___drive_motion__extreme:=hw 93 [] [] Tryd.func93
theorem x97:Has (b0n Tryd.prog) "newel/circuit.Check" y_circuit_Check:=hw 94 [1,93,69,50,46,41,32,27,22,17,13,9] [] Tryd.func94
theorem y0v:Has (b0n Tryd.prog) "slices.Index[[]int,int]" y_slices_Index___int_int_:=hw 95 [] [] Tryd.func95
theorem x94:Has (b0n Tryd.prog) "(newel/circuit.state).wire" y__circuit_state__wire:=hw 96 [2,7,6] [] Tryd.func96
theorem y0g:Has (b0n Tryd.prog) "newel/drive.Check$1" y_drive_CheckD1:=hw 104 [1,8,3] [] Tryd.func104
theorem x92:Has (b0n Tryd.prog) "(*newel/drive.motion).with" y___drive_motion__with:=hw 105 [] [] Tryd.func105
theorem y0s:Has (b0n Tryd.prog) "slices.Contains[[]bool,bool]" y_slices_Contains___bool_bool_:=hw 106 [] [] Tryd.func106
theorem v0l:Has (b0n Tryd.prog) "slices.ContainsFunc[[]int,int]" y_slices_ContainsFunc___int_int_:=hw 107 [] [] Tryd.func107
theorem y0c:Has (b0n Tryd.prog) "newel/circuit.ascending" y_circuit_ascending:=hw 110 [] [] Tryd.func110
theorem x98:Has (b0n Tryd.prog) "newel/circuit.Check$1" y_circuit_CheckD1:=hw 108 [] [] Tryd.func108
theorem x99:Has (b0n Tryd.prog) "newel/circuit.Check$2" y_circuit_CheckD2:=hw 111 [] [] Tryd.func111
theorem x93:Has (b0n Tryd.prog) "(newel/circuit.state).conducts" y__circuit_state__conducts:=hw 112 [2,25,20,19,12,5] [] Tryd.func112
theorem x95:Has (b0n Tryd.prog) "(newel/circuit.state).wire$1" y__circuit_state__wireD1:=hw 113 [] [] Tryd.func113
theorem x91:Has (b0n Tryd.prog) "(*newel/drive.motion).grip" y___drive_motion__grip:=hw 119 [] [] Tryd.func119
theorem y0n:Has (b0n Tryd.prog) "newel/drive.tick" y_drive_tick:=hw 118 [4,24,20,16,12] [] Tryd.func118
theorem y0u:Has (b0n Tryd.prog) "slices.Index[[]bool,bool]" y_slices_Index___bool_bool_:=hw 120 [] [] Tryd.func120
theorem l7c:Has (b0n Tryd.prog) "slices.IndexFunc[[]int,int]" y_slices_IndexFunc___int_int_:=hw 121 [] [] Tryd.func121
theorem y0d:Has (b0n Tryd.prog) "newel/circuit.isSet" y_circuit_isSet:=hw 109 [] [] Tryd.func109
theorem y0i:Has (b0n Tryd.prog) "newel/drive.ahead" y_drive_ahead:=hw 123 [] [] Tryd.func123
theorem y0k:Has (b0n Tryd.prog) "newel/drive.floor" y_drive_floor:=hw 125 [] [] Tryd.func125
theorem l5x:∀ p∈tbl,Has (b0n Tryd.prog) p.1 p.2:=by
 unfold tbl
 simp only [List.forall_mem_cons,List.not_mem_nil,false_implies,implies_true,and_true]
 exact ⟨y0r,y0p,y0h,y0q,y0b,y0j,y0m,y0a,y0t,y0e,y0f,y0o,y0l,x90,x97,y0v,x94,y0g,x92,y0s,v0l,y0c,x98,x99,x93,x95,x91,y0n,y0u,l7c,y0d,y0i,y0k⟩
theorem l7k:b0n Tryd.prog "newel/neweltop.measures" [] (B true) []:=by
 have h:=l5b
 split at h
 ·rename_i ob e; exact l44 l5x e
 ·cases h
end Go.Nw.UM
namespace Go.Nw
end Go.Nw
namespace Go.Nw
theorem v02 {O:Orac} {x:XO} {s s':St} (h:wpOp O x s (·=s')) {k:Nat} (hk:x.dst≠some k):s'.t k=s.t k:=by
 have hp:∀ r,(s.put x.dst r).t k=s.t k:=fun r=>by
  unfold St.put
  cases hd:x.dst with
  | none=>rfl
  | some d =>
   have : ¬ k=d:=fun e=>hk (by rw [hd,e])
   simp only [St.set,upd,this,if_false]
 unfold wpOp at h
 cases hw:b2y s x.guard with
 | none=>simp only [hw] at h
 | some b =>
  cases b with
  | false=>simp only [hw] at h; rw [<- h]; exact hp _
  | true =>
   simp only [hw] at h
   split at h
   ·obtain ⟨r,h',_,_,h3⟩:=h; rw [<- h3]; exact hp _
   ·obtain ⟨r,h',_,h3⟩:=h; rw [<- h3]; exact hp _
   ·obtain ⟨n,a,b,_,r,h',_,h3⟩:=h; rw [<- h3]; exact hp _
   ·obtain ⟨_,h3⟩:=h; rw [<- h3]; exact hp _
   ·obtain ⟨r,h',_,h3⟩:=h; rw [<- h3]; exact hp _
def u5d (l:List XO) (n:Nat) (prs:List (Nat × Nat)) (ss:List Nat):Bool :=
 prs.all fun p=>p.2 == n && decide (p.1<n) && match l[p.1]? with
  | some x=>(match x.op.lookX with | .t s=>ss.contains s && ((l.drop p.1).take (n - p.1)).all (fun y=>y.dst != some s)|_=>!x.op.look)
  | none=>true
def u4i (ss:List Nat) (t1:Slots) (h1 h2:Heap):Prop:=∀ s∈ss,∀ id,E65 (t1 s)=some id->h2.ob id=h1.ob id
theorem u7h {O:Orac} {l:List XO} {n:Nat} {prs:List (Nat × Nat)} {ss:List Nat} {Q:XExit->Slots->Heap->Prop} {t:Slots} {h:Heap} (hn:n<l.length) (hp:u5d l n prs ss=true)
  (hw : b0d O (l.take n) (fun t1 h1=>b0d O ((l.drop n).take 1) (fun t2 h2=>u4i ss t1 h1 h2/\b0d O (l.drop (n+1)) (Q .normal) t2 h2) t1 h1) t h):cw O (.regW l prs) Q t h:=by
 letI : Cfg:=⟨fun _=>none,fun _=>false⟩
 have e1:(l.drop n).take 1=[l[n]]:=by rw [List.drop_eq_getElem_cons hn]; rfl
 rw [e1] at hw
 obtain ⟨S,h0,hS,hK⟩:=d6s hw
 obtain ⟨s',h1,h2,h3⟩:=c5b hK
 obtain ⟨S3,g0,gS,gK⟩:=d6s h3
 have hL:(l.take n).length=n:=by rw [List.length_take]; omega
 rw [hL] at h1 h2
 refine ⟨fun i=>if i<=n then S i else S3 (i - n - 1),?_,fun i x hx=>?_,?_,?_⟩
 ·simp only [Nat.zero_le,if_true]; exact h0
 ·by_cases hi:i<n
  ·have e1:i<=n:=Nat.le_of_lt hi
   have e2:i+1<=n:=hi
   simp only [e1,e2,if_true]
   exact hS i x (by rw [List.getElem?_take,if_pos hi]; exact hx)
  ·have e2:¬ i+1<=n:=by omega
   by_cases e:i=n
   ·subst e
    have hx':x=l[i]:=by rw [gG9 hn] at hx; exact (Option.some.inj hx).symm
    subst hx'
    have e4:i+1 - i - 1=0:=by omega
    simp only [Nat.le_refl,if_true,e2,if_false,e4]
    rw [g0]; exact h1
   ·obtain ⟨k,rfl⟩:∃ k,i=n+1+k:=⟨i - n - 1,by omega⟩
    have e3:¬ n+1+k<=n:=by omega
    have e6:n+1+k - n - 1=k:=by omega
    have e7:n+1+k+1 - n - 1=k+1:=by omega
    simp only [e3,e2,if_false,e6,e7]
    exact gS k x (by rw [List.getElem?_drop]; exact hx)
 ·intro j k x z id hjk hj hk hlook _ _ href
  have hq:=List.all_eq_true.1 hp (j,k) hjk
  simp only [Bool.and_eq_true,beq_iff_eq,decide_eq_true_eq] at hq
  obtain ⟨⟨rfl,hjn⟩,hm⟩:=hq
  rw [hj] at hm
  dsimp only at hm
  have e2:¬ k+1<=k:=by omega
  have e3:j<=k:=by omega
  have e4:k+1 - k - 1=0:=by omega
  simp only [Nat.le_refl,if_true,e2,if_false,e4]
  rw [g0]
  simp only [e3,if_true] at href
  cases hx:x.op.lookX with
  | t s =>
   rw [hx] at hm href
   simp only [Bool.and_eq_true,List.contains_iff_mem,List.all_eq_true,bne_iff_ne,ne_eq] at hm
   have same:∀ d,j+d<=k->(S (j+d)).t s=(S j).t s:=by
    intro d
    induction d with
    | zero=>intro _; rfl
    | succ d ih =>
     intro hd
     obtain ⟨y,hy⟩:∃ y,l[j+d]?=some y:=⟨_,gG9 (by omega)⟩
     have hw:=hS (j+d) y (by rw [List.getElem?_take,if_pos (by omega)]; exact hy)
     have hne:y.dst≠some s:=hm.2 y (by
      have : ((l.drop j).take (k - j))[d]?=some y:=by rw [List.getElem?_take,if_pos (by omega),List.getElem?_drop]; exact hy
      exact mG9 this)
     rw [show j+(d+1)=j+d+1 by omega,v02 hw hne]
     exact ih (by omega)
   have := same (k - j) (by omega)
   rw [show j+(k - j)=k by omega] at this
   exact h2 s hm.1 id (by rw [this]; exact href)
  | tf s=>rw [hx] at hm; simp [hlook] at hm
  | c v=>rw [hx] at hm; simp [hlook] at hm
  | f nm=>rw [hx] at hm; simp [hlook] at hm
  | g a b=>rw [hx] at hm; simp [hlook] at hm
 ·have e2:¬ l.length<=n:=by omega
  have e4:(l.drop (n+1)).length=l.length - n - 1:=by rw [List.length_drop]; omega
  simp only [e2,if_false]
  rw [<- e4]
  exact gK
theorem u7g {O:Orac} {l:List XO} {n:Nat} {prs:List (Nat × Nat)} {b:XCode} {Q:XExit->Slots->Heap->Prop} {t:Slots} {h:Heap} (ss:List Nat) (post:Slots->Heap->Prop) (hn:n<l.length) (hp:u5d l n prs ss=true)
  (h1 : ∀ K:Slots->Heap->Prop,(∀ t h,post t h->K t h)->b0d O (l.take n) (fun t1 h1=>b0d O ((l.drop n).take 1) (fun t2 h2=>u4i ss t1 h1 h2/\b0d O (l.drop (n+1)) K t2 h2) t1 h1) t h)
  (h2 : ∀ t h,post t h->cw O b Q t h):cw O (.seq (.regW l prs) b) Q t h:=by
 rw [b9z]; exact u7h hn hp (h1 _ h2)
end Go.Nw
namespace Go.Proofs
open Go.RowKit Go.Shelf
attribute [local go_sem] Oper.semAt_some
theorem ntm:Tryd.f87.ntmps=35:=by kernel_rfl
def K45 (i v t:Nat):List (Int × Int × Int):=(List.range t).map fun (s:Nat)=>((i:Int),(v:Int),(s:Int))
def s96 (T i v:Nat):List (Int × Int × Int):=(List.range v).flatMap fun u=>K45 i u T
def c63 (T i:Nat):List (Int × Int × Int):=(-1,0,0) :: (List.range i).flatMap fun j=>s96 T j 2
theorem K7n (i v t:Nat):(K45 i v t).length=t:=by simp [K45]
theorem K82 (i v t:Nat):K45 i v (t+1)=K45 i v t++[((i:Int),(v:Int),(t:Int))]:=by simp [K45,List.range_succ]
theorem K7o (T i v:Nat):s96 T i (v+1)=s96 T i v++K45 i v T:=by simp [s96,List.range_succ]
theorem K7m (T i:Nat):c63 T (i+1)=c63 T i++s96 T i 2:=by simp [c63,List.range_succ]
theorem K65 (T i:Nat):∀ v,(s96 T i v).length=v * T
 | 0=>by simp [s96]
 | v+1=>by rw [K7o,List.length_append,K65 T i v,K7n,Nat.add_mul,Nat.one_mul]
theorem K6m (T:Nat):∀ i,(c63 T i).length=1+i * (2 * T)
 | 0=>by simp [c63]
 | i+1=>by rw [K7m,List.length_append,K6m T i,K65,Nat.add_mul,Nat.one_mul]; omega
theorem K6f {W W':World} {b:Nat} (h:W'.heap[b]?=W.heap[b]?) (o:Nat):W'.cell? ⟨b,o,none⟩=W.cell? ⟨b,o,none⟩:=by simp [World.cell?,h]
set_option maxRecDepth 100000 in
set_option maxHeartbeats 2000000 in
theorem L2x (F:Fence) (n:Nat) (h87:F.fn 87) (hro:F.round=none) (hn:1<=n) (l b o I T cap:Nat) (a0:Option Addr) (hI:I<1000) (hT:T<1000) (S:Nat->Prop) (hb:S b) (J Jx:List (Int × Int × Int)->World->Prop)
  (V : Int × Int × Int->Prop) (hV0:V (-1,0,0)) (hV:∀ i v t:Nat,i<I->v<2->t<T->V ((i:Int),(v:Int),(t:Int)))
  (hY : ∀ pre x W,V x->J pre W->pre.length<1+I * (2 * T)->YieldAt F (n - 1) Tryd.prog l #[.agg #[.int .i64 x.1,.int .i64 x.2.1,.int .i64 x.2.2]] W fun e W' =>
   (e = .returned (.bool true)/\J (pre++[x]) W'/\∀ k,S k->W'.heap[k]?=W.heap[k]?)\/(e = .returned (.bool false)/\Jx (pre++[x]) W'))
  (W : World) (h1:W.cell? ⟨b,o,none⟩=some (.slice a0 I cap)) (h2:W.cell? ⟨b,o+6,none⟩=some (.int .i64 T)) (h0:J [] W) :
  CallsIn F n Tryd.prog 87 #[.func (.yield l) #[] #[],.pointer (some ⟨b,o,none⟩)] W fun e W'=>(∃ v,e = .returned v)/\((∃ ys,ys=c63 T I/\J ys W')\/(∃ pre,True/\Jx pre W')):=by
 have hz:=hY [] (-1,0,0) W hV0 h0 (by simp; omega)
 obtain ⟨fn,tmps,assign,body,hy,hR⟩:=hz
 refine callsIn_of_wp Tryd.func87 rfl h87 ?_ hro
 simp only [ntm,List.size_toArray,List.length_cons,List.length_nil,Nat.reduceAdd,Nat.reduceSub,Array.replicate_succ,Array.replicate_zero,List.push_toArray,List.append_toArray,List.nil_append,List.cons_append]
 gi_wp2
 refine hR.mono ?_
 clear hR hy
 rintro e W1 (⟨rfl,hJ1,hk1⟩|⟨rfl,hJx1⟩)
 case inr =>
  gi_wp2
  refine bodyPost_ret (results_none rfl _ _ _) rfl ?_
  exact ⟨⟨_,rfl⟩,.inr ⟨_,trivial,hJx1⟩⟩
 have c1:W1.cell? ⟨b,o,none⟩=some (.slice a0 I cap):=(K6f (hk1 b hb) o).trans h1
 gi_wp2
 gi_loopw [14] (fun i wr=>∃ k:Nat,k<=I/\i = .int .i64 k/\J (c63 T k) wr/\wr.heap[b]?=W.heap[b]?) (fun i _=>I - (intOf i).toNat)
 case atStart=>exact ⟨0,Nat.zero_le _,rfl,by simpa [c63] using hJ1,hk1 b hb⟩
 case round =>
  obtain ⟨i,hi,rfl,hJi,hbi⟩:=hrel
  by_cases hlt:i<I
  ·gi_wp2
   gi_loopw [17] (fun u wr=>∃ v:Nat,v<=2/\u = .int .i64 v/\J (c63 T i++s96 T i v) wr/\wr.heap[b]?=W.heap[b]?) (fun u _=>2 - (intOf u).toNat)
   case atStart=>exact ⟨0,Nat.zero_le _,rfl,by simpa [s96] using hJi,hbi⟩
   case round =>
    obtain ⟨v,hv,rfl,hJv,hbv⟩:=hrel
    by_cases hv2:v<2
    ·have c2:=(K6f hbv (o+6)).trans h2
     gi_wp2
     rw [show decide ((v:Int)<2)=true from decide_eq_true (by omega)]
     gi_loopw [22] (fun z wr=>∃ t:Nat,t<=T/\z = .int .i64 t/\J (c63 T i++s96 T i v++K45 i v t) wr/\wr.heap[b]?=W.heap[b]?) (fun z _=>T - (intOf z).toNat)
     case atStart=>exact ⟨0,Nat.zero_le _,rfl,by simpa [K45] using hJv,hbv⟩
     case round =>
      obtain ⟨t,ht,rfl,hJt,hbt⟩:=hrel
      by_cases htl:t<T
      ·have hm1:(i+1) * (2 * T)<=I * (2 * T):=Nat.mul_le_mul_right _ hlt
       have hm2:(v+1) * T<=2 * T:=Nat.mul_le_mul_right _ hv2
       rw [Nat.add_mul,Nat.one_mul] at hm1 hm2
       obtain ⟨fn,tmps,assign,body,hy,hR⟩:=hY _ ((i:Int),(v:Int),(t:Int)) wr (hV i v t hlt hv2 htl) hJt (by rw [List.length_append,List.length_append,K6m,K65,K7n]; omega)
       dsimp only at hy
       gi_wp2
       refine hR.mono ?_
       clear hR hy
       rintro e W3 (⟨rfl,hJ3,hk3⟩|⟨rfl,hJx3⟩)
       ·gi_wp2
        go_roundw
        case rel =>
         exact ⟨t+1,by omega,by simp,by rw [K82,<- List.append_assoc]; exact hJ3,(hk3 b hb).trans hbt⟩
        case measure=>simp [intOf]; omega
       ·gi_wp2
        refine bodyPost_ret (results_none rfl _ _ _) rfl ?_
        exact ⟨⟨_,rfl⟩,.inr ⟨_,trivial,hJx3⟩⟩
      ·obtain rfl:t=T:=by omega
       gi_wp2
       go_roundw
       case rel=>exact ⟨v+1,by omega,by simp,by rw [K7o,<- List.append_assoc]; exact hJt,hbt⟩
       case measure=>simp [intOf]; omega
    ·obtain rfl:v=2:=by omega
     gi_wp2
     go_roundw
     case rel=>exact ⟨i+1,by omega,by simp,by rw [K7m]; exact hJv,hbv⟩
     case measure=>simp [intOf]; omega
  ·obtain rfl:i=I:=by omega
   gi_wp2
   go_end0
   exact ⟨⟨_,rfl⟩,.inl ⟨_,rfl,hJi⟩⟩
end Go.Proofs
