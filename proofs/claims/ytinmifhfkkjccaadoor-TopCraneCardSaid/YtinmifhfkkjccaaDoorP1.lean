/- Plain laws on the models. -/
import Derived.Test.YtinmifhfkkjccaaDoorNwTp5Src
import Derived.Test.YtinmifhfkkjccaaDoorNwCall
import Derived.Test.YtinmifhfkkjccaaDoorRows
import Derived.LaidMore
import Derived.OpenShut
import Derived.MakeChecks
import Derived.Deep.Strs
import Derived.Test.YtinmifhfkkjccaaDoorNwRun2
import Derived.Test.YtinmifhfkkjccaaDoorNwHas
import Derived.Test.YtinmifhfkkjccaaDoorProg
set_option linter.all false
namespace Go.Nw.YM
open Go.Proofs Go.Nw.Tp5 Go.RowKit Go.Deep
instance cfg:Cfg:=⟨fun g=>if g=0 then some b6h else if g=1 then some u0n else none,fun f=>(["(newel/situation.Plant).set", "slices.Reverse[[]int,int]", "(*newel/drive.motion).with", "(*newel/drive.motion).extreme"]:List String).contains f⟩
theorem M1r {P:Program} {w:World} {t e:TypeId} {fuel:Nat} {cs:List Value} {q:List MemPlace} {n:Nat} {l:List Int} (ht:P.underlying t=some (.array n e)) (he:P.underlying e=some (.int .i64)) (hc:P.cellsOf e=1) (hc':P.cellsOf t=n)
  (h : DataW.trod (fun _=>()) P w 0 (fun _=>true) false fuel t cs=some (.agg (l.map fun x=>.lit (.int .i64 x)),q)):cs=l.map (Value.int .i64):=by
 obtain ⟨xs,m,rfl,hx,hlen,hn,hel⟩:=DataW.trod_array ht h
 simp only [Prod.mk.injEq,DataW.agg.injEq] at hx
 have hl:l.length=n:=by have:=congrArg List.length hx.1; simpa [hn] using this
 apply List.ext_getElem
 ·rw [hlen,hc',List.length_map,hl]
 ·intro i h1 h2
  have hin:i<n:=by rw [hlen,hc'] at h1; exact h1
  have := hel i hin
  have hix:i<xs.length:=by rw [hn]; exact hin
  rw [gG9 hix] at this
  obtain ⟨k,e1,e2,_⟩:=DataW.trod_int he this
  rw [hc,Nat.mul_one,List.drop_eq_getElem_cons h1,List.take_succ_cons,List.take_zero] at e1
  have hk:cs[i] = .int .i64 k:=by simpa using e1
  have hd:(l.map fun x=>(DataW.lit (.int .i64 x):DataW Unit))[i]?=some (.lit (.int .i64 k)):=by
   rw [hx.1,List.getElem?_map,gG9 hix,e2]; rfl
  rw [List.getElem?_map,gG9 (by rw [hl]; exact hin)] at hd
  simp at hd
  rw [hk,List.getElem_map,hd]
theorem L8j {α:Type}:∀ (l:List (List α)) (cs:List α) (m:Nat),cs.length=l.length * m->(∀ (i:Nat) r,l[i]?=some r->(cs.drop (i * m)).take m=r)->cs=l.flatten
 | [],cs,m,hl,_=>by
  have : cs=[]:=by simpa using hl
  rw [this]; rfl
 | r :: l,cs,m,hl,h=>by
  have h0:=h 0 r rfl
  rw [Nat.zero_mul,List.drop_zero] at h0
  have ih:=L8j l (cs.drop m) m (by rw [List.length_drop,hl,List.length_cons,Nat.add_mul,Nat.one_mul]; omega) fun i r' hr=>by
   rw [List.drop_drop,show m+i * m=(i+1) * m by rw [Nat.add_mul,Nat.one_mul]; omega]
   exact h (i+1) r' hr
  rw [List.flatten_cons,<- ih,<- h0,List.take_append_drop]
theorem L8s {P:Program} {w:World} {t e e2:TypeId} {fuel:Nat} {cs:List Value} {q:List MemPlace} {n m:Nat} {l:List (List Int)} (ht:P.underlying t=some (.array n e)) (he:P.underlying e=some (.array m e2)) (he2:P.underlying e2=some (.int .i64)) (hc2:P.cellsOf e2=1) (hc:P.cellsOf e=m) (hc':P.cellsOf t=n * m)
  (h : DataW.trod (fun _=>()) P w 0 (fun _=>true) false fuel t cs=some (.agg (l.map fun r=>.agg (r.map fun x=>.lit (.int .i64 x))),q)):cs=l.flatten.map (Value.int .i64):=by
 obtain ⟨xs,k,rfl,hx,hlen,hn,hel⟩:=DataW.trod_array ht h
 simp only [Prod.mk.injEq,DataW.agg.injEq] at hx
 have hl:l.length=n:=by have:=congrArg List.length hx.1; simpa [hn] using this
 rw [List.map_flatten]
 refine L8j _ cs m (by rw [hlen,hc',List.length_map,hl]) fun i r hr=>?_
 rw [List.getElem?_map] at hr
 obtain ⟨row,hrow,rfl⟩:=mE9.1 hr
 have hin:i<n:=by rw [<- hl]; exact (gS9.1 hrow).1
 have h1:=hel i hin
 have hix:i<xs.length:=by rw [hn]; exact hin
 rw [gG9 hix,hc] at h1
 have hd:(l.map fun r=>(DataW.agg (r.map fun x=>.lit (.int .i64 x)):DataW Unit))[i]?=some xs[i].1:=by
  rw [hx.1,List.getElem?_map,gG9 hix]; rfl
 rw [List.getElem?_map,hrow] at hd
 have hd:=Option.some.inj hd
 refine M1r (q:=xs[i].2) he he2 hc2 hc (h1.trans ?_)
 rw [show xs[i]=(xs[i].1,xs[i].2) from rfl,<- hd]
def M2r:List (List Int):=[[0,1,2],[0,2,1],[1,0,2],[1,2,0],[2,0,1],[2,1,0]]
def M2s:List (List Int):=[[0,1],[0,2],[1,2]]
theorem j7f {W:World} (h:laidMetH Tryd.prog [("newel/shaft.turns",YtinmifhfkkjccaaDoor.Rows.laid_newel_shaft_turns),("newel/shaft.swaps",YtinmifhfkkjccaaDoor.Rows.laid_newel_shaft_swaps)] W):r7j Tryd.prog W (fun b=>b<W.heap.size):=by
 rw [MakeChecks.laidMetH_plain _ _ _ (by kernel_rfl)] at h
 obtain ⟨ps,⟨g0,t0,cs0,f0,p0,q0,hg0,ht0,hv0,hd0,⟨g1,t1,cs1,f1,p1,q1,hg1,ht1,hv1,hd1,_,_⟩,_⟩,_,_⟩:=h
 obtain rfl:=Option.some.inj ((show Tryd.prog.globalNamed "newel/shaft.turns"=some 0 by kernel_rfl).symm.trans hg0)
 obtain rfl:=Option.some.inj ((show Tryd.prog.globalNamed "newel/shaft.swaps"=some 1 by kernel_rfl).symm.trans hg1)
 obtain rfl:=Option.some.inj ((show (Tryd.prog.globals[0]?).map (·.type)=some 127 by kernel_rfl).symm.trans ht0)
 obtain rfl:=Option.some.inj ((show (Tryd.prog.globals[1]?).map (·.type)=some 128 by kernel_rfl).symm.trans ht1)
 have e0:cs0.toList=b50.map (Value.int .i64):=L8s (n:=6) (m:=3) (l:=M2r) (e:=22) (e2:=3) (by kernel_rfl) (by kernel_rfl) (by kernel_rfl) (by kernel_rfl) (by kernel_rfl) (by kernel_rfl) hd0
 have e1:cs1.toList=u3d.map (Value.int .i64):=L8s (n:=3) (m:=2) (l:=M2s) (e:=118) (e2:=3) (by kernel_rfl) (by kernel_rfl) (by kernel_rfl) (by kernel_rfl) (by kernel_rfl) (by kernel_rfl) hd1
 have size:∀ {n:String} {g:Nat} {cs:Array Value},Tryd.prog.globalNamed n=some g->W.var? Tryd.prog n=some cs->g<W.heap.size:=by
  intro n g cs hg hv
  simp only [World.var?,hg,bS9] at hv
  split at hv
  ·rename_i e; exact (Array.getElem?_eq_some_iff.1 e).1
  ·cases hv
 intro g cs hg
 by_cases z0:g=0
 ·subst z0
  obtain rfl:b6h=cs:=Option.some.inj hg
  have hs:=size hg0 hv0
  refine ⟨hs,hs,fun j c hj=>?_⟩
  unfold b6h at hj
  rw [List.getElem?_map] at hj
  cases hx:b50[j]? with
  | none=>rw [hx] at hj; cases hj
  | some x =>
   rw [hx] at hj; cases hj
   exact ⟨.int .i64 x,by rw [World.var?_cell hg0 hv0 j,<- Array.getElem?_toList,e0,List.getElem?_map,hx]; rfl,rfl,.v _⟩
 by_cases z1:g=1
 ·subst z1
  obtain rfl:u0n=cs:=Option.some.inj hg
  have hs:=size hg1 hv1
  refine ⟨hs,hs,fun j c hj=>?_⟩
  unfold u0n at hj
  rw [List.getElem?_map] at hj
  cases hx:u3d[j]? with
  | none=>rw [hx] at hj; cases hj
  | some x =>
   rw [hx] at hj; cases hj
   exact ⟨.int .i64 x,by rw [World.var?_cell hg1 hv1 j,<- Array.getElem?_toList,e1,List.getElem?_map,hx]; rfl,rfl,.v _⟩
 have : Cfg.tab g=none:=by show (if g=0 then some b6h else if g=1 then some u0n else none)=none; rw [if_neg z0,if_neg z1]
 rw [this] at hg; cases hg
theorem g9w (os:Os) (args:Array Value):laidMetH Tryd.prog [("newel/shaft.turns",YtinmifhfkkjccaaDoor.Rows.laid_newel_shaft_turns),("newel/shaft.swaps",YtinmifhfkkjccaaDoor.Rows.laid_newel_shaft_swaps)] ((World.doorLaid Tryd.prog 400 os).forCall (fun _ _=>0) ⟨#[],args,[]⟩).memory :=
 laidMetH_of_parts3 (fuel:=8) (laidMet_of_run' 8 (by kernel_rfl) (by kernel_rfl)) (by kernel_rfl) (by kernel_rfl)
end Go.Nw.YM
namespace Go.Nw.YM
open Go.Proofs Go.Nw.Tp5
set_option maxRecDepth 100000
def gy (o:Option XFunc):XFunc:=match o with|some x=>x|none=>⟨0,[],.skip⟩
noncomputable def y_neweltop_measures:XFunc:=gy (c6p Tryd.prog [] [] Tryd.f6)
noncomputable def y_l01_Example:XFunc:=gy (c6p Tryd.prog [] [] Tryd.f18)
noncomputable def y_drive_Distance:XFunc:=gy (c6p Tryd.prog [3,2] [] Tryd.f17)
noncomputable def y_l03_Example:XFunc:=gy (c6p Tryd.prog [] [] Tryd.f19)
noncomputable def y_circuit_Pairs:XFunc:=gy (c6p Tryd.prog [1,26,17] [] Tryd.f20)
noncomputable def y_drive_checkStop:XFunc:=gy (c6p Tryd.prog [3,43,38,33,32,27,26,24,23,18,17,11,2,45] [] Tryd.f32)
noncomputable def y_drive_run:XFunc:=gy (c6p Tryd.prog [4,14,11,3] [] Tryd.f33)
noncomputable def y_circuit_Critical:XFunc:=gy (c6p Tryd.prog [1,12] [] Tryd.f34)
noncomputable def y_slices_Contains___int_int_:XFunc:=gy (c6p Tryd.prog [] [] Tryd.f35)
noncomputable def y_circuit_weak:XFunc:=gy (c6p Tryd.prog [2,6] [] Tryd.f36)
noncomputable def y_drive_Check:XFunc:=gy (c6p Tryd.prog [1,41,36,29,22,15,10,6] [] Tryd.f50)
noncomputable def y_drive_to:XFunc:=gy (c6p Tryd.prog [] [] Tryd.f52)
noncomputable def y_drive_in:XFunc:=gy (c6p Tryd.prog [3,11,5] [] Tryd.f51)
noncomputable def y___drive_motion__extreme:XFunc:=gy (c6p Tryd.prog [] [] Tryd.f53)
noncomputable def y_circuit_Check:XFunc:=gy (c6p Tryd.prog [1,93,69,50,46,41,32,27,22,17,13,9] [] Tryd.f54)
noncomputable def y_slices_Index___int_int_:XFunc:=gy (c6p Tryd.prog [] [] Tryd.f55)
noncomputable def y__circuit_state__wire:XFunc:=gy (c6p Tryd.prog [2,7,6] [] Tryd.f56)
noncomputable def y_drive_CheckD1:XFunc:=gy (c6p Tryd.prog [1,8,3] [] Tryd.f70)
noncomputable def y___drive_motion__with:XFunc:=gy (c6p Tryd.prog [] [] Tryd.f71)
noncomputable def y_slices_Contains___bool_bool_:XFunc:=gy (c6p Tryd.prog [] [] Tryd.f72)
noncomputable def y_slices_ContainsFunc___int_int_:XFunc:=gy (c6p Tryd.prog [] [] Tryd.f73)
noncomputable def y_circuit_ascending:XFunc:=gy (c6p Tryd.prog [] [] Tryd.f76)
noncomputable def y_circuit_CheckD1:XFunc:=gy (c6p Tryd.prog [] [] Tryd.f74)
noncomputable def y_circuit_CheckD2:XFunc:=gy (c6p Tryd.prog [] [] Tryd.f77)
noncomputable def y__circuit_state__conducts:XFunc:=gy (c6p Tryd.prog [2,25,20,19,12,5] [] Tryd.f78)
noncomputable def y__circuit_state__wireD1:XFunc:=gy (c6p Tryd.prog [] [] Tryd.f79)
noncomputable def y___drive_motion__grip:XFunc:=gy (c6p Tryd.prog [] [] Tryd.f87)
noncomputable def y_drive_tick:XFunc:=gy (c6p Tryd.prog [4,24,20,16,12] [] Tryd.f86)
noncomputable def y_slices_Index___bool_bool_:XFunc:=gy (c6p Tryd.prog [] [] Tryd.f88)
noncomputable def y_slices_IndexFunc___int_int_:XFunc:=gy (c6p Tryd.prog [] [] Tryd.f89)
noncomputable def y_circuit_isSet:XFunc:=gy (c6p Tryd.prog [] [] Tryd.f75)
noncomputable def y_drive_ahead:XFunc:=gy (c6p Tryd.prog [] [] Tryd.f93)
noncomputable def y_drive_floor:XFunc:=gy (c6p Tryd.prog [] [] Tryd.f95)
noncomputable def tbl:List (String × XFunc):=[("newel/neweltop.measures",y_neweltop_measures),("newel/newellaw01.Example",y_l01_Example),("newel/drive.Distance",y_drive_Distance),("newel/newellaw03.Example",y_l03_Example),("newel/circuit.Pairs",y_circuit_Pairs),("newel/drive.checkStop",y_drive_checkStop),("newel/drive.run",y_drive_run),("newel/circuit.Critical",y_circuit_Critical),("slices.Contains[[]int,int]",y_slices_Contains___int_int_),("newel/circuit.weak",y_circuit_weak),("newel/drive.Check",y_drive_Check),("newel/drive.to",y_drive_to),("newel/drive.in",y_drive_in),("(*newel/drive.motion).extreme",y___drive_motion__extreme),("newel/circuit.Check",y_circuit_Check),("slices.Index[[]int,int]",y_slices_Index___int_int_),("(newel/circuit.state).wire",y__circuit_state__wire),("newel/drive.Check$1",y_drive_CheckD1),("(*newel/drive.motion).with",y___drive_motion__with),("slices.Contains[[]bool,bool]",y_slices_Contains___bool_bool_),("slices.ContainsFunc[[]int,int]",y_slices_ContainsFunc___int_int_),("newel/circuit.ascending",y_circuit_ascending),("newel/circuit.Check$1",y_circuit_CheckD1),("newel/circuit.Check$2",y_circuit_CheckD2),("(newel/circuit.state).conducts",y__circuit_state__conducts),("(newel/circuit.state).wire$1",y__circuit_state__wireD1),("(*newel/drive.motion).grip",y___drive_motion__grip),("newel/drive.tick",y_drive_tick),("slices.Index[[]bool,bool]",y_slices_Index___bool_bool_),("slices.IndexFunc[[]int,int]",y_slices_IndexFunc___int_int_),("newel/circuit.isSet",y_circuit_isSet),("newel/drive.ahead",y_drive_ahead),("newel/drive.floor",y_drive_floor)]
theorem l5b:(match c4q tbl 40 "newel/neweltop.measures" [] [] with|some ([.v (.bool true)],_)=>true|_=>false)=true:=by kernel_rfl
theorem hw {n:String} {x:XFunc} (k:Nat) {f0:Func} (bf:List Nat) (fz:List (Nat × Nat)) (hk:Tryd.prog.funcs[k]?=some f0) (hu:((b2k n).isNone && Tryd.prog.funcs.toList.zipIdx.all fun p=>p.1.name != n || p.2 == k)=true:=by kernel_rfl) (hc:c6p Tryd.prog bf fz f0=some x:=by kernel_rfl):Has (b0n Tryd.prog) n x:=b00 k bf fz hk hu hc
theorem y0r:Has (b0n Tryd.prog) "newel/neweltop.measures" y_neweltop_measures:=hw 6 [] [] Tryd.func6
theorem y0p:Has (b0n Tryd.prog) "newel/newellaw01.Example" y_l01_Example:=hw 18 [] [] Tryd.func18
theorem y0h:Has (b0n Tryd.prog) "newel/drive.Distance" y_drive_Distance:=hw 17 [3,2] [] Tryd.func17
theorem y0q:Has (b0n Tryd.prog) "newel/newellaw03.Example" y_l03_Example:=hw 19 [] [] Tryd.func19
theorem y0b:Has (b0n Tryd.prog) "newel/circuit.Pairs" y_circuit_Pairs:=hw 20 [1,26,17] [] Tryd.func20
theorem y0j:Has (b0n Tryd.prog) "newel/drive.checkStop" y_drive_checkStop:=hw 32 [3,43,38,33,32,27,26,24,23,18,17,11,2,45] [] Tryd.func32
theorem y0m:Has (b0n Tryd.prog) "newel/drive.run" y_drive_run:=hw 33 [4,14,11,3] [] Tryd.func33
theorem y0a:Has (b0n Tryd.prog) "newel/circuit.Critical" y_circuit_Critical:=hw 34 [1,12] [] Tryd.func34
theorem y0t:Has (b0n Tryd.prog) "slices.Contains[[]int,int]" y_slices_Contains___int_int_:=hw 35 [] [] Tryd.func35
theorem y0e:Has (b0n Tryd.prog) "newel/circuit.weak" y_circuit_weak:=hw 36 [2,6] [] Tryd.func36
theorem y0f:Has (b0n Tryd.prog) "newel/drive.Check" y_drive_Check:=hw 50 [1,41,36,29,22,15,10,6] [] Tryd.func50
theorem y0o:Has (b0n Tryd.prog) "newel/drive.to" y_drive_to:=hw 52 [] [] Tryd.func52
theorem y0l:Has (b0n Tryd.prog) "newel/drive.in" y_drive_in:=hw 51 [3,11,5] [] Tryd.func51
theorem x90:Has (b0n Tryd.prog) "(*newel/drive.motion).extreme" y___drive_motion__extreme:=hw 53 [] [] Tryd.func53
theorem x97:Has (b0n Tryd.prog) "newel/circuit.Check" y_circuit_Check:=hw 54 [1,93,69,50,46,41,32,27,22,17,13,9] [] Tryd.func54
theorem y0v:Has (b0n Tryd.prog) "slices.Index[[]int,int]" y_slices_Index___int_int_:=hw 55 [] [] Tryd.func55
theorem x94:Has (b0n Tryd.prog) "(newel/circuit.state).wire" y__circuit_state__wire:=hw 56 [2,7,6] [] Tryd.func56
theorem y0g:Has (b0n Tryd.prog) "newel/drive.Check$1" y_drive_CheckD1:=hw 70 [1,8,3] [] Tryd.func70
theorem x92:Has (b0n Tryd.prog) "(*newel/drive.motion).with" y___drive_motion__with:=hw 71 [] [] Tryd.func71
theorem y0s:Has (b0n Tryd.prog) "slices.Contains[[]bool,bool]" y_slices_Contains___bool_bool_:=hw 72 [] [] Tryd.func72
theorem v0l:Has (b0n Tryd.prog) "slices.ContainsFunc[[]int,int]" y_slices_ContainsFunc___int_int_:=hw 73 [] [] Tryd.func73
theorem y0c:Has (b0n Tryd.prog) "newel/circuit.ascending" y_circuit_ascending:=hw 76 [] [] Tryd.func76
theorem x98:Has (b0n Tryd.prog) "newel/circuit.Check$1" y_circuit_CheckD1:=hw 74 [] [] Tryd.func74
theorem x99:Has (b0n Tryd.prog) "newel/circuit.Check$2" y_circuit_CheckD2:=hw 77 [] [] Tryd.func77
theorem x93:Has (b0n Tryd.prog) "(newel/circuit.state).conducts" y__circuit_state__conducts:=hw 78 [2,25,20,19,12,5] [] Tryd.func78
theorem x95:Has (b0n Tryd.prog) "(newel/circuit.state).wire$1" y__circuit_state__wireD1:=hw 79 [] [] Tryd.func79
theorem x91:Has (b0n Tryd.prog) "(*newel/drive.motion).grip" y___drive_motion__grip:=hw 87 [] [] Tryd.func87
theorem y0n:Has (b0n Tryd.prog) "newel/drive.tick" y_drive_tick:=hw 86 [4,24,20,16,12] [] Tryd.func86
theorem y0u:Has (b0n Tryd.prog) "slices.Index[[]bool,bool]" y_slices_Index___bool_bool_:=hw 88 [] [] Tryd.func88
theorem l7c:Has (b0n Tryd.prog) "slices.IndexFunc[[]int,int]" y_slices_IndexFunc___int_int_:=hw 89 [] [] Tryd.func89
theorem y0d:Has (b0n Tryd.prog) "newel/circuit.isSet" y_circuit_isSet:=hw 75 [] [] Tryd.func75
theorem y0i:Has (b0n Tryd.prog) "newel/drive.ahead" y_drive_ahead:=hw 93 [] [] Tryd.func93
theorem y0k:Has (b0n Tryd.prog) "newel/drive.floor" y_drive_floor:=hw 95 [] [] Tryd.func95
theorem l5x:∀ p∈tbl,Has (b0n Tryd.prog) p.1 p.2:=by
 unfold tbl
 simp only [List.forall_mem_cons,List.not_mem_nil,false_implies,implies_true,and_true]
 exact ⟨y0r,y0p,y0h,y0q,y0b,y0j,y0m,y0a,y0t,y0e,y0f,y0o,y0l,x90,x97,y0v,x94,y0g,x92,y0s,v0l,y0c,x98,x99,x93,x95,x91,y0n,y0u,l7c,y0d,y0i,y0k⟩
theorem l7k:b0n Tryd.prog "newel/neweltop.measures" [] (B true) []:=by
 have h:=l5b
 split at h
 ·rename_i ob e; exact l44 l5x e
 ·cases h
end Go.Nw.YM
