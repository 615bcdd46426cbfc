/- Plain laws on the models. -/
import Derived.Test.YtccjacnppmciaaaGreatDoorNwAccSrc
import Derived.Test.YtccjacnppmciaaaGreatDoorNwCall
import Derived.Test.YtccjacnppmciaaaGreatDoorRows
import Derived.LaidMore
import Derived.OpenShut
import Derived.MakeChecks
import Derived.Deep.Strs
import Derived.Test.YtccjacnppmciaaaGreatDoorNwRun2
import Derived.Test.YtccjacnppmciaaaGreatDoorNwHas
import Derived.Test.YtccjacnppmciaaaGreatDoorProg
import Derived.Test.YtccjacnppmciaaaGreatDoorNwVcg
import Derived.Test.YtccjacnppmciaaaGreatDoorNwChain
import Derived.RangeFuncBox
import Derived.RangeFuncLeaves
import Derived.Shelf.Abstract
import Derived.WalkKit
import Derived.OwnWalkIn
import Derived.TacticsInMore
import Derived.LoopNIn
import Derived.LoopIn
set_option linter.all false
namespace Go.Nw.AM
open Go.Proofs Go.Nw.Acc Go.RowKit Go.Deep
instance cfg:Cfg:=⟨fun g=>if g=0 then some b6h else if g=1 then some u0n else if g=2 then some u0o else none,fun f=>(["(newel/situation.Plant).set", "slices.SortFunc[[]int,int]", "slices.pdqsortCmpFunc[int]", "slices.insertionSortCmpFunc[int]", "slices.heapSortCmpFunc[int]", "slices.siftDownCmpFunc[int]", "slices.breakPatternsCmpFunc[int]", "slices.reverseRangeCmpFunc[int]", "slices.partialInsertionSortCmpFunc[int]", "slices.partitionEqualCmpFunc[int]", "slices.partitionCmpFunc[int]"]:List String).contains f⟩
theorem u8s {P:Program} {w:World} {t e:TypeId} {fuel:Nat} {cs:List Value} {q:List MemPlace} {n:Nat} {l:List Int} (ht:P.underlying t=some (.array n e)) (he:P.underlying e=some (.int .u8)) (hc:P.cellsOf e=1) (hc':P.cellsOf t=n)
  (h : DataW.trod (fun _=>()) P w 0 (fun _=>true) false fuel t cs=some (.agg (l.map fun x=>.lit (.int .u8 x)),q)):cs=l.map (Value.int .u8):=by
 obtain ⟨xs,m,rfl,hx,hlen,hn,hel⟩:=DataW.trod_array ht h
 simp only [Prod.mk.injEq,DataW.agg.injEq] at hx
 have hl:l.length=n:=by have:=congrArg List.length hx.1; simpa [hn] using this
 apply List.ext_getElem
 ·rw [hlen,hc',List.length_map,hl]
 ·intro i h1 h2
  have hin:i<n:=by rw [hlen,hc'] at h1; exact h1
  have := hel i hin
  have hix:i<xs.length:=by rw [hn]; exact hin
  rw [gG9 hix] at this
  obtain ⟨k,e1,e2,_⟩:=DataW.trod_int he this
  rw [hc,Nat.mul_one,List.drop_eq_getElem_cons h1,List.take_succ_cons,List.take_zero] at e1
  have hk:cs[i] = .int .u8 k:=by simpa using e1
  have hd:(l.map fun x=>(DataW.lit (.int .u8 x):DataW Unit))[i]?=some (.lit (.int .u8 k)):=by
   rw [hx.1,List.getElem?_map,gG9 hix,e2]; rfl
  rw [List.getElem?_map,gG9 (by rw [hl]; exact hin)] at hd
  simp at hd
  rw [hk,List.getElem_map,hd]
theorem g8z {w:World} {a:Addr} {v:Value} (h:w.cell? a=some v):a.block<w.heap.size:=by
 unfold World.cell? at h
 split at h
 ·rename_i hb; exact (Array.getElem?_eq_some_iff.1 hb).1
 ·cases h
theorem d8c:b50.length=8:=rfl
theorem j7f {W:World} (h:laidMetH Tryz.prog [("math/bits.deBruijn32tab",YtccjacnppmciaaaGreatDoor.Rows.laid_math_bits_deBruijn32tab),("math/bits.deBruijn64tab",YtccjacnppmciaaaGreatDoor.Rows.laid_math_bits_deBruijn64tab),("newel/newelref04.words",YtccjacnppmciaaaGreatDoor.Rows.laid_newel_newelref04_words)] W):r7j Tryz.prog W (fun b=>b<W.heap.size):=by
 rw [MakeChecks.laidMetH_plain _ _ _ (by kernel_rfl)] at h
 obtain ⟨ps,⟨g0,t0,cs0,f0,p0,q0,hg0,ht0,hv0,hd0,⟨g1,t1,cs1,f1,p1,q1,hg1,ht1,hv1,hd1,⟨g2,t2,cs2,f2,p2,q2,hg2,ht2,hv2,hd2,_,_⟩,_⟩,_⟩,_,_⟩:=h
 obtain rfl:=Option.some.inj ((show Tryz.prog.globalNamed "math/bits.deBruijn32tab"=some 1 by kernel_rfl).symm.trans hg0)
 obtain rfl:=Option.some.inj ((show Tryz.prog.globalNamed "math/bits.deBruijn64tab"=some 2 by kernel_rfl).symm.trans hg1)
 obtain rfl:=Option.some.inj ((show Tryz.prog.globalNamed "newel/newelref04.words"=some 0 by kernel_rfl).symm.trans hg2)
 obtain rfl:=Option.some.inj ((show (Tryz.prog.globals[1]?).map (·.type)=some 183 by kernel_rfl).symm.trans ht0)
 obtain rfl:=Option.some.inj ((show (Tryz.prog.globals[2]?).map (·.type)=some 184 by kernel_rfl).symm.trans ht1)
 obtain rfl:=Option.some.inj ((show (Tryz.prog.globals[0]?).map (·.type)=some 22 by kernel_rfl).symm.trans ht2)
 have u5:Tryz.prog.underlying 5=some (.int .u8):=by kernel_rfl
 have c5:Tryz.prog.cellsOf 5=1:=by kernel_rfl
 have e0:cs0.toList=u3d.map (Value.int .u8):=u8s (n:=32) (by kernel_rfl) u5 c5 (by kernel_rfl) hd0
 have e1:cs1.toList=u3e.map (Value.int .u8):=u8s (n:=64) (by kernel_rfl) u5 c5 (by kernel_rfl) hd1
 have size:∀ {n:String} {g:Nat} {cs:Array Value},Tryz.prog.globalNamed n=some g->W.var? Tryz.prog n=some cs->g<W.heap.size:=by
  intro n g cs hg hv
  simp only [World.var?,hg,bS9] at hv
  split at hv
  ·rename_i e; exact (Array.getElem?_eq_some_iff.1 e).1
  ·cases hv
 intro g cs hg
 by_cases z1:g=1
 ·subst z1
  obtain rfl:u0n=cs:=Option.some.inj hg
  have hs:=size hg0 hv0
  refine ⟨hs,hs,fun j c hj=>?_⟩
  unfold u0n at hj
  rw [List.getElem?_map] at hj
  cases hx:u3d[j]? with
  | none=>rw [hx] at hj; cases hj
  | some x =>
   rw [hx] at hj; cases hj
   exact ⟨.int .u8 x,by rw [World.var?_cell hg0 hv0 j,<- Array.getElem?_toList,e0,List.getElem?_map,hx]; rfl,rfl,.v _⟩
 by_cases z2:g=2
 ·subst z2
  obtain rfl:u0o=cs:=Option.some.inj hg
  have hs:=size hg1 hv1
  refine ⟨hs,hs,fun j c hj=>?_⟩
  unfold u0o at hj
  rw [List.getElem?_map] at hj
  cases hx:u3e[j]? with
  | none=>rw [hx] at hj; cases hj
  | some x =>
   rw [hx] at hj; cases hj
   exact ⟨.int .u8 x,by rw [World.var?_cell hg1 hv1 j,<- Array.getElem?_toList,e1,List.getElem?_map,hx]; rfl,rfl,.v _⟩
 have hs:=size hg2 hv2
 by_cases z:g=0
 case neg =>
  have : Cfg.tab g=none:=by show (if g=0 then some b6h else if g=1 then some u0n else if g=2 then some u0o else none)=none; rw [if_neg z,if_neg z1,if_neg z2]
  rw [this] at hg; cases hg
 subst z
 obtain rfl:b6h=cs:=Option.some.inj hg
 refine ⟨hs,hs,fun j c hj=>?_⟩
 have hw:(YtccjacnppmciaaaGreatDoor.Rows.laid_newel_newelref04_words (H:=Unit)) = .slice (b50.map fun s=>.lit (.string s)) []:=rfl
 rcases open_strs (e:=9) (by kernel_rfl) (by kernel_rfl) (by kernel_rfl) hd2 with ⟨_,h2⟩|⟨a,len,cap,m,Sx,hc,_,hlc,hcm,hm,hx,hcell⟩
 ·rw [hw] at h2; cases h2
 simp only [if_true] at hm
 subst hm
 rw [hw] at hx
 simp only [Prod.mk.injEq,DataW.slice.injEq] at hx
 have hlen:len=8:=by have:=congrArg List.length hx.1.1; simpa [d8c] using this.symm
 have hcap:m=len:=by have:=congrArg List.length hx.1.2; simp at this; omega
 subst hlen; subst hcap
 have hsx:∀ i,i<8->∃ x,b50[i]?=some x/\Sx i=⟨x.toArray⟩:=fun i hi=>by
  have := congrArg (fun l:List (DataW Unit)=>l[i]?) hx.1.1
  simp only [List.getElem?_map,List.getElem?_range hi,Option.map_some] at this
  obtain ⟨x,h1,h2⟩:=mE9.1 this
  refine ⟨x,h1,?_⟩
  simp only [DataW.lit.injEq,Lit.string.injEq] at h2
  rw [h2]
 obtain ⟨b,o,spot⟩:=a
 have hspot:spot=none:=by
  have h1:=(hcell 0 (by decide)).1
  simpa [Addr.add] using World.cell?_spot h1
 subst hspot
 have hadd:∀ k,(⟨b,o,none⟩:Addr).add k=⟨b,o+k,none⟩:=fun k=>by
  unfold Addr.add; by_cases hk:k=0 <;> simp [hk]
 have hb0:b<W.heap.size:=by
  have h1:=(hcell 0 (by decide)).1
  have := g8z h1
  rwa [hadd] at this
 cases j with
 | succ j=>simp [b6h] at hj
 | zero =>
  obtain rfl:GC.sl 1 (b50.map fun s=>[.string ⟨s.toArray⟩])=c:=by simpa [b6h] using hj
  refine ⟨.slice (some ⟨b,o,none⟩) 8 8,?_,rfl,?_⟩
  ·rw [World.var?_cell hg2 hv2 0,<- Array.getElem?_toList,hc]; rfl
  ·have hl:((b50.map fun s=>[Value.string ⟨s.toArray⟩]).map (List.map AV.v)).length=8:=rfl
   have hat:∀ i j c,at2 ((b50.map fun s=>[Value.string ⟨s.toArray⟩]).map (List.map AV.v)) i j=some c->i<8/\j=0/\c = .v (.string (Sx i)):=fun i j c hh=>by
    unfold at2 at hh
    obtain ⟨row,h1,h2⟩:=bE9.1 hh
    simp only [List.map_map,List.getElem?_map,mE9] at h1
    obtain ⟨x,h3,h4⟩:=h1
    have hi:i<8:=by have:=(gS9.1 h3).1; simpa [d8c] using this
    obtain ⟨x',h5,h6⟩:=hsx i hi
    rw [h3] at h5; cases h5
    subst h4
    cases j with
    | zero=>simp at h2; subst h2; exact ⟨hi,rfl,by rw [h6]⟩
    | succ j=>simp at h2
   have sim:SimV Tryz.prog W (fun b=>b<W.heap.size) Heap.empty (fun _=>(0,0)) (.fs 1 ((b50.map fun s=>[Value.string ⟨s.toArray⟩]).map (List.map AV.v))) (.slice (some ⟨b,o,none⟩) ((b50.map fun s=>[Value.string ⟨s.toArray⟩]).map (List.map AV.v)).length 8):=by
    refine .fs 1 _ b o 8 (by rw [hl]; exact Nat.le_refl _) hb0 (fun e he=>?_) (fun i _=>.string (Sx i)) (fun i j c hh=>?_) (fun i j c hh=>rfl) (fun i j c hh=>?_)
    ·obtain ⟨r,h1,rfl⟩:=List.mem_map.1 he
     obtain ⟨s,_,rfl⟩:=List.mem_map.1 h1
     rfl
    ·obtain ⟨h1,rfl,_⟩:=hat i j c hh
     have := (hcell i h1).1
     rw [hadd] at this
     rw [Nat.mul_one,Nat.add_zero]; exact this
    ·obtain ⟨_,_,rfl⟩:=hat i j c hh
     exact .v _
   rw [hl] at sim
   exact sim
theorem g9w (os:Os) (args:Array Value):laidMetH Tryz.prog [("math/bits.deBruijn32tab",YtccjacnppmciaaaGreatDoor.Rows.laid_math_bits_deBruijn32tab),("math/bits.deBruijn64tab",YtccjacnppmciaaaGreatDoor.Rows.laid_math_bits_deBruijn64tab),("newel/newelref04.words",YtccjacnppmciaaaGreatDoor.Rows.laid_newel_newelref04_words)] ((World.doorLaid Tryz.prog 400 os).forCall (fun _ _=>0) ⟨#[],args,[]⟩).memory :=
 laidMetH_of_parts3 (fuel:=8) (laidMet_of_run' 8 (by kernel_rfl) (by kernel_rfl)) (by kernel_rfl) (by kernel_rfl)
end Go.Nw.AM
namespace Go.Nw.AM
open Go.Proofs Go.Nw.Acc
set_option maxRecDepth 100000
def gy (o:Option XFunc):XFunc:=match o with|some x=>x|none=>⟨0,[],.skip⟩
noncomputable def y_l10_works:XFunc:=gy (c6p Tryz.prog [] [] Tryz.f10)
noncomputable def y_faults_Liars:XFunc:=gy (c6p Tryz.prog [] [] Tryz.f33)
noncomputable def y_faults_Explain:XFunc:=gy (c6p Tryz.prog [2] [] Tryz.f34)
noncomputable def y_l10_sameInts:XFunc:=gy (c6p Tryz.prog [] [] Tryz.f19)
noncomputable def y_faults_readings:XFunc:=gy (c6p Tryz.prog [] [] Tryz.f63)
noncomputable def y_faults_common:XFunc:=gy (c6p Tryz.prog [] [(18,6),(1000009,6),(1000009,48),(1000009,50)] Tryz.f64)
noncomputable def y_faults_fewer:XFunc:=gy (c6p Tryz.prog [] [] Tryz.f65)
noncomputable def y_faults_members:XFunc:=gy (c6p Tryz.prog [] [] Tryz.f66)
noncomputable def y_faults_plant:XFunc:=gy (c6p Tryz.prog [2,46,36,20,15,10] [] Tryz.f67)
noncomputable def y_faults_fewest:XFunc:=gy (c6p Tryz.prog [2,8] [] Tryz.f68)
noncomputable def y_faults_within:XFunc:=gy (c6p Tryz.prog [] [] Tryz.f49)
noncomputable def y_math_bits_OnesCount:XFunc:=gy (c6p Tryz.prog [] [] Tryz.f91)
noncomputable def y_slices_Compare___int_int_:XFunc:=gy (c6p Tryz.prog [] [] Tryz.f92)
noncomputable def y_math_bits_TrailingZeros:XFunc:=gy (c6p Tryz.prog [] [] Tryz.f93)
noncomputable def y_faults_explained:XFunc:=gy (c6p Tryz.prog [5,3,30,12] [] Tryz.f94)
noncomputable def y_slices_SortFunc___int_int_:XFunc:=gy (c6p Tryz.prog [] [] Tryz.f95)
noncomputable def y_faults_fewestD1:XFunc:=gy (c6p Tryz.prog [] [] Tryz.f96)
noncomputable def y_math_bits_OnesCount64:XFunc:=gy (c6p Tryz.prog [] [] Tryz.f108)
noncomputable def y_cmp_Compare_int_:XFunc:=gy (c6p Tryz.prog [] [] Tryz.f109)
noncomputable def y_math_bits_TrailingZeros64:XFunc:=gy (c6p Tryz.prog [] [] Tryz.f111)
noncomputable def y_slices_ContainsFunc___int_int_:XFunc:=gy (c6p Tryz.prog [] [] Tryz.f112)
noncomputable def y_faults_explainedD1:XFunc:=gy (c6p Tryz.prog [] [] Tryz.f113)
noncomputable def y_math_bits_Len:XFunc:=gy (c6p Tryz.prog [] [] Tryz.f115)
noncomputable def y_slices_pdqsortCmpFunc_int_:XFunc:=gy (c6p Tryz.prog [] [] Tryz.f114)
noncomputable def y_cmp_isNaN_int_:XFunc:=gy (c6p Tryz.prog [] [] Tryz.f119)
noncomputable def y_slices_IndexFunc___int_int_:XFunc:=gy (c6p Tryz.prog [] [] Tryz.f120)
noncomputable def y_math_bits_Len64:XFunc:=gy (c6p Tryz.prog [] [] Tryz.f130)
noncomputable def y_slices_insertionSortCmpFunc_int_:XFunc:=gy (c6p Tryz.prog [] [] Tryz.f121)
noncomputable def tbl:List (String × XFunc):=[("newel/newellaw10.works",y_l10_works),("newel/faults.Liars",y_faults_Liars),("newel/faults.Explain",y_faults_Explain),("newel/newellaw10.sameInts",y_l10_sameInts),("newel/faults.readings",y_faults_readings),("newel/faults.common",y_faults_common),("newel/faults.fewer",y_faults_fewer),("newel/faults.members",y_faults_members),("newel/faults.plant",y_faults_plant),("newel/faults.fewest",y_faults_fewest),("newel/faults.within",y_faults_within),("math/bits.OnesCount",y_math_bits_OnesCount),("slices.Compare[[]int,int]",y_slices_Compare___int_int_),("math/bits.TrailingZeros",y_math_bits_TrailingZeros),("newel/faults.explained",y_faults_explained),("slices.SortFunc[[]int,int]",y_slices_SortFunc___int_int_),("newel/faults.fewest$1",y_faults_fewestD1),("math/bits.OnesCount64",y_math_bits_OnesCount64),("cmp.Compare[int]",y_cmp_Compare_int_),("math/bits.TrailingZeros64",y_math_bits_TrailingZeros64),("slices.ContainsFunc[[]int,int]",y_slices_ContainsFunc___int_int_),("newel/faults.explained$1",y_faults_explainedD1),("math/bits.Len",y_math_bits_Len),("slices.pdqsortCmpFunc[int]",y_slices_pdqsortCmpFunc_int_),("cmp.isNaN[int]",y_cmp_isNaN_int_),("slices.IndexFunc[[]int,int]",y_slices_IndexFunc___int_int_),("math/bits.Len64",y_math_bits_Len64),("slices.insertionSortCmpFunc[int]",y_slices_insertionSortCmpFunc_int_)]
theorem l5b:(match c4q tbl 40 "newel/newellaw10.works" [] [] with|some ([.v (.bool true)],_)=>true|_=>false)=true:=by kernel_rfl
theorem hw {n:String} {x:XFunc} (k:Nat) {f0:Func} (bf:List Nat) (fz:List (Nat × Nat)) (hk:Tryz.prog.funcs[k]?=some f0) (hu:((b2k n).isNone && Tryz.prog.funcs.toList.zipIdx.all fun p=>p.1.name != n || p.2 == k)=true:=by kernel_rfl) (hc:c6p Tryz.prog bf fz f0=some x:=by kernel_rfl):Has (b0n Tryz.prog) n x:=b00 k bf fz hk hu hc
theorem v0a:Has (b0n Tryz.prog) "newel/newellaw10.works" y_l10_works:=hw 10 [] [] Tryz.func10
theorem u9y:Has (b0n Tryz.prog) "newel/faults.Liars" y_faults_Liars:=hw 33 [] [] Tryz.func33
theorem u9x:Has (b0n Tryz.prog) "newel/faults.Explain" y_faults_Explain:=hw 34 [2] [] Tryz.func34
theorem u99:Has (b0n Tryz.prog) "newel/newellaw10.sameInts" y_l10_sameInts:=hw 19 [] [] Tryz.func19
theorem u97:Has (b0n Tryz.prog) "newel/faults.readings" y_faults_readings:=hw 63 [] [] Tryz.func63
theorem u9z:Has (b0n Tryz.prog) "newel/faults.common" y_faults_common:=hw 64 [] [(18,6),(1000009,6),(1000009,48),(1000009,50)] Tryz.func64
theorem u92:Has (b0n Tryz.prog) "newel/faults.fewer" y_faults_fewer:=hw 65 [] [] Tryz.func65
theorem u95:Has (b0n Tryz.prog) "newel/faults.members" y_faults_members:=hw 66 [] [] Tryz.func66
theorem u96:Has (b0n Tryz.prog) "newel/faults.plant" y_faults_plant:=hw 67 [2,46,36,20,15,10] [] Tryz.func67
theorem u93:Has (b0n Tryz.prog) "newel/faults.fewest" y_faults_fewest:=hw 68 [2,8] [] Tryz.func68
theorem u98:Has (b0n Tryz.prog) "newel/faults.within" y_faults_within:=hw 49 [] [] Tryz.func49
theorem v0e:Has (b0n Tryz.prog) "math/bits.OnesCount" y_math_bits_OnesCount:=hw 91 [] [] Tryz.func91
theorem v0k:Has (b0n Tryz.prog) "slices.Compare[[]int,int]" y_slices_Compare___int_int_:=hw 92 [] [] Tryz.func92
theorem v0h:Has (b0n Tryz.prog) "math/bits.TrailingZeros" y_math_bits_TrailingZeros:=hw 93 [] [] Tryz.func93
theorem u90:Has (b0n Tryz.prog) "newel/faults.explained" y_faults_explained:=hw 94 [5,3,30,12] [] Tryz.func94
theorem v0m:Has (b0n Tryz.prog) "slices.SortFunc[[]int,int]" y_slices_SortFunc___int_int_:=hw 95 [] [] Tryz.func95
theorem u94:Has (b0n Tryz.prog) "newel/faults.fewest$1" y_faults_fewestD1:=hw 96 [] [] Tryz.func96
theorem v0g:Has (b0n Tryz.prog) "math/bits.OnesCount64" y_math_bits_OnesCount64:=hw 108 [] [] Tryz.func108
theorem u9v:Has (b0n Tryz.prog) "cmp.Compare[int]" y_cmp_Compare_int_:=hw 109 [] [] Tryz.func109
theorem v0j:Has (b0n Tryz.prog) "math/bits.TrailingZeros64" y_math_bits_TrailingZeros64:=hw 111 [] [] Tryz.func111
theorem v0l:Has (b0n Tryz.prog) "slices.ContainsFunc[[]int,int]" y_slices_ContainsFunc___int_int_:=hw 112 [] [] Tryz.func112
theorem u91:Has (b0n Tryz.prog) "newel/faults.explained$1" y_faults_explainedD1:=hw 113 [] [] Tryz.func113
theorem v0b:Has (b0n Tryz.prog) "math/bits.Len" y_math_bits_Len:=hw 115 [] [] Tryz.func115
theorem v0y:Has (b0n Tryz.prog) "slices.pdqsortCmpFunc[int]" y_slices_pdqsortCmpFunc_int_:=hw 114 [] [] Tryz.func114
theorem u9w:Has (b0n Tryz.prog) "cmp.isNaN[int]" y_cmp_isNaN_int_:=hw 119 [] [] Tryz.func119
theorem l7c:Has (b0n Tryz.prog) "slices.IndexFunc[[]int,int]" y_slices_IndexFunc___int_int_:=hw 120 [] [] Tryz.func120
theorem v0d:Has (b0n Tryz.prog) "math/bits.Len64" y_math_bits_Len64:=hw 130 [] [] Tryz.func130
theorem v0q:Has (b0n Tryz.prog) "slices.insertionSortCmpFunc[int]" y_slices_insertionSortCmpFunc_int_:=hw 121 [] [] Tryz.func121
theorem l5x:∀ p∈tbl,Has (b0n Tryz.prog) p.1 p.2:=by
 unfold tbl
 simp only [List.forall_mem_cons,List.not_mem_nil,false_implies,implies_true,and_true]
 exact ⟨v0a,u9y,u9x,u99,u97,u9z,u92,u95,u96,u93,u98,v0e,v0k,v0h,u90,v0m,u94,v0g,u9v,v0j,v0l,u91,v0b,v0y,u9w,l7c,v0d,v0q⟩
theorem l7k:b0n Tryz.prog "newel/newellaw10.works" [] (B true) []:=by
 have h:=l5b
 split at h
 ·rename_i ob e; exact l44 l5x e
 ·cases h
end Go.Nw.AM
namespace Go.Nw
end Go.Nw
namespace Go.Nw
theorem v02 {O:Orac} {x:XO} {s s':St} (h:wpOp O x s (·=s')) {k:Nat} (hk:x.dst≠some k):s'.t k=s.t k:=by
 have hp:∀ r,(s.put x.dst r).t k=s.t k:=fun r=>by
  unfold St.put
  cases hd:x.dst with
  | none=>rfl
  | some d =>
   have : ¬ k=d:=fun e=>hk (by rw [hd,e])
   simp only [St.set,upd,this,if_false]
 unfold wpOp at h
 cases hw:b2y s x.guard with
 | none=>simp only [hw] at h
 | some b =>
  cases b with
  | false=>simp only [hw] at h; rw [<- h]; exact hp _
  | true =>
   simp only [hw] at h
   split at h
   ·obtain ⟨r,h',_,_,h3⟩:=h; rw [<- h3]; exact hp _
   ·obtain ⟨r,h',_,h3⟩:=h; rw [<- h3]; exact hp _
   ·obtain ⟨n,a,b,_,r,h',_,h3⟩:=h; rw [<- h3]; exact hp _
   ·obtain ⟨_,h3⟩:=h; rw [<- h3]; exact hp _
   ·obtain ⟨r,h',_,h3⟩:=h; rw [<- h3]; exact hp _
def u5d (l:List XO) (n:Nat) (prs:List (Nat × Nat)) (ss:List Nat):Bool :=
 prs.all fun p=>p.2 == n && decide (p.1<n) && match l[p.1]? with
  | some x=>(match x.op.lookX with | .t s=>ss.contains s && ((l.drop p.1).take (n - p.1)).all (fun y=>y.dst != some s)|_=>!x.op.look)
  | none=>true
def u4i (ss:List Nat) (t1:Slots) (h1 h2:Heap):Prop:=∀ s∈ss,∀ id,E65 (t1 s)=some id->h2.ob id=h1.ob id
theorem u7h {O:Orac} {l:List XO} {n:Nat} {prs:List (Nat × Nat)} {ss:List Nat} {Q:XExit->Slots->Heap->Prop} {t:Slots} {h:Heap} (hn:n<l.length) (hp:u5d l n prs ss=true)
  (hw : b0d O (l.take n) (fun t1 h1=>b0d O ((l.drop n).take 1) (fun t2 h2=>u4i ss t1 h1 h2/\b0d O (l.drop (n+1)) (Q .normal) t2 h2) t1 h1) t h):cw O (.regW l prs) Q t h:=by
 letI : Cfg:=⟨fun _=>none,fun _=>false⟩
 have e1:(l.drop n).take 1=[l[n]]:=by rw [List.drop_eq_getElem_cons hn]; rfl
 rw [e1] at hw
 obtain ⟨S,h0,hS,hK⟩:=d6s hw
 obtain ⟨s',h1,h2,h3⟩:=c5b hK
 obtain ⟨S3,g0,gS,gK⟩:=d6s h3
 have hL:(l.take n).length=n:=by rw [List.length_take]; omega
 rw [hL] at h1 h2
 refine ⟨fun i=>if i<=n then S i else S3 (i - n - 1),?_,fun i x hx=>?_,?_,?_⟩
 ·simp only [Nat.zero_le,if_true]; exact h0
 ·by_cases hi:i<n
  ·have e1:i<=n:=Nat.le_of_lt hi
   have e2:i+1<=n:=hi
   simp only [e1,e2,if_true]
   exact hS i x (by rw [List.getElem?_take,if_pos hi]; exact hx)
  ·have e2:¬ i+1<=n:=by omega
   by_cases e:i=n
   ·subst e
    have hx':x=l[i]:=by rw [gG9 hn] at hx; exact (Option.some.inj hx).symm
    subst hx'
    have e4:i+1 - i - 1=0:=by omega
    simp only [Nat.le_refl,if_true,e2,if_false,e4]
    rw [g0]; exact h1
   ·obtain ⟨k,rfl⟩:∃ k,i=n+1+k:=⟨i - n - 1,by omega⟩
    have e3:¬ n+1+k<=n:=by omega
    have e6:n+1+k - n - 1=k:=by omega
    have e7:n+1+k+1 - n - 1=k+1:=by omega
    simp only [e3,e2,if_false,e6,e7]
    exact gS k x (by rw [List.getElem?_drop]; exact hx)
 ·intro j k x z id hjk hj hk hlook _ _ href
  have hq:=List.all_eq_true.1 hp (j,k) hjk
  simp only [Bool.and_eq_true,beq_iff_eq,decide_eq_true_eq] at hq
  obtain ⟨⟨rfl,hjn⟩,hm⟩:=hq
  rw [hj] at hm
  dsimp only at hm
  have e2:¬ k+1<=k:=by omega
  have e3:j<=k:=by omega
  have e4:k+1 - k - 1=0:=by omega
  simp only [Nat.le_refl,if_true,e2,if_false,e4]
  rw [g0]
  simp only [e3,if_true] at href
  cases hx:x.op.lookX with
  | t s =>
   rw [hx] at hm href
   simp only [Bool.and_eq_true,List.contains_iff_mem,List.all_eq_true,bne_iff_ne,ne_eq] at hm
   have same:∀ d,j+d<=k->(S (j+d)).t s=(S j).t s:=by
    intro d
    induction d with
    | zero=>intro _; rfl
    | succ d ih =>
     intro hd
     obtain ⟨y,hy⟩:∃ y,l[j+d]?=some y:=⟨_,gG9 (by omega)⟩
     have hw:=hS (j+d) y (by rw [List.getElem?_take,if_pos (by omega)]; exact hy)
     have hne:y.dst≠some s:=hm.2 y (by
      have : ((l.drop j).take (k - j))[d]?=some y:=by rw [List.getElem?_take,if_pos (by omega),List.getElem?_drop]; exact hy
      exact mG9 this)
     rw [show j+(d+1)=j+d+1 by omega,v02 hw hne]
     exact ih (by omega)
   have := same (k - j) (by omega)
   rw [show j+(k - j)=k by omega] at this
   exact h2 s hm.1 id (by rw [this]; exact href)
  | tf s=>rw [hx] at hm; simp [hlook] at hm
  | c v=>rw [hx] at hm; simp [hlook] at hm
  | f nm=>rw [hx] at hm; simp [hlook] at hm
  | g a b=>rw [hx] at hm; simp [hlook] at hm
 ·have e2:¬ l.length<=n:=by omega
  have e4:(l.drop (n+1)).length=l.length - n - 1:=by rw [List.length_drop]; omega
  simp only [e2,if_false]
  rw [<- e4]
  exact gK
theorem u7g {O:Orac} {l:List XO} {n:Nat} {prs:List (Nat × Nat)} {b:XCode} {Q:XExit->Slots->Heap->Prop} {t:Slots} {h:Heap} (ss:List Nat) (post:Slots->Heap->Prop) (hn:n<l.length) (hp:u5d l n prs ss=true)
  (h1 : ∀ K:Slots->Heap->Prop,(∀ t h,post t h->K t h)->b0d O (l.take n) (fun t1 h1=>b0d O ((l.drop n).take 1) (fun t2 h2=>u4i ss t1 h1 h2/\b0d O (l.drop (n+1)) K t2 h2) t1 h1) t h)
  (h2 : ∀ t h,post t h->cw O b Q t h):cw O (.seq (.regW l prs) b) Q t h:=by
 rw [b9z]; exact u7h hn hp (h1 _ h2)
end Go.Nw
namespace Go.Proofs
open Go.RowKit Go.Shelf
attribute [local go_sem] Oper.semAt_some
theorem ntm:Tryz.f70.ntmps=35:=by kernel_rfl
def K45 (i v t:Nat):List (Int × Int × Int):=(List.range t).map fun (s:Nat)=>((i:Int),(v:Int),(s:Int))
def K27 (T i v:Nat):List (Int × Int × Int):=(List.range v).flatMap fun u=>K45 i u T
def c63 (T i:Nat):List (Int × Int × Int):=(-1,0,0) :: (List.range i).flatMap fun j=>K27 T j 2
theorem K7n (i v t:Nat):(K45 i v t).length=t:=by simp [K45]
theorem K82 (i v t:Nat):K45 i v (t+1)=K45 i v t++[((i:Int),(v:Int),(t:Int))]:=by simp [K45,List.range_succ]
theorem K7o (T i v:Nat):K27 T i (v+1)=K27 T i v++K45 i v T:=by simp [K27,List.range_succ]
theorem K7m (T i:Nat):c63 T (i+1)=c63 T i++K27 T i 2:=by simp [c63,List.range_succ]
theorem K65 (T i:Nat):∀ v,(K27 T i v).length=v * T
 | 0=>by simp [K27]
 | v+1=>by rw [K7o,List.length_append,K65 T i v,K7n,Nat.add_mul,Nat.one_mul]
theorem K6m (T:Nat):∀ i,(c63 T i).length=1+i * (2 * T)
 | 0=>by simp [c63]
 | i+1=>by rw [K7m,List.length_append,K6m T i,K65,Nat.add_mul,Nat.one_mul]; omega
theorem K6f {W W':World} {b:Nat} (h:W'.heap[b]?=W.heap[b]?) (o:Nat):W'.cell? ⟨b,o,none⟩=W.cell? ⟨b,o,none⟩:=by simp [World.cell?,h]
set_option maxRecDepth 100000 in
set_option maxHeartbeats 2000000 in
theorem K83 (F:Fence) (n:Nat) (h70:F.fn 70) (hro:F.round=none) (hn:1<=n) (l b o I T cap:Nat) (a0:Option Addr) (hI:I<1000) (hT:T<1000) (S:Nat->Prop) (hb:S b) (J Jx:List (Int × Int × Int)->World->Prop)
  (V : Int × Int × Int->Prop) (hV0:V (-1,0,0)) (hV:∀ i v t:Nat,i<I->v<2->t<T->V ((i:Int),(v:Int),(t:Int)))
  (hY : ∀ pre x W,V x->J pre W->pre.length<1+I * (2 * T)->YieldAt F (n - 1) Tryz.prog l #[.agg #[.int .i64 x.1,.int .i64 x.2.1,.int .i64 x.2.2]] W fun e W' =>
   (e = .returned (.bool true)/\J (pre++[x]) W'/\∀ k,S k->W'.heap[k]?=W.heap[k]?)\/(e = .returned (.bool false)/\Jx (pre++[x]) W'))
  (W : World) (h1:W.cell? ⟨b,o,none⟩=some (.slice a0 I cap)) (h2:W.cell? ⟨b,o+6,none⟩=some (.int .i64 T)) (h0:J [] W) :
  CallsIn F n Tryz.prog 70 #[.func (.yield l) #[] #[],.pointer (some ⟨b,o,none⟩)] W fun e W'=>(∃ v,e = .returned v)/\((∃ ys,ys=c63 T I/\J ys W')\/(∃ pre,True/\Jx pre W')):=by
 have hz:=hY [] (-1,0,0) W hV0 h0 (by simp; omega)
 obtain ⟨fn,tmps,assign,body,hy,hR⟩:=hz
 refine callsIn_of_wp Tryz.func70 rfl h70 ?_ hro
 simp only [ntm,List.size_toArray,List.length_cons,List.length_nil,Nat.reduceAdd,Nat.reduceSub,Array.replicate_succ,Array.replicate_zero,List.push_toArray,List.append_toArray,List.nil_append,List.cons_append]
 gi_wp2
 refine hR.mono ?_
 clear hR hy
 rintro e W1 (⟨rfl,hJ1,hk1⟩|⟨rfl,hJx1⟩)
 case inr =>
  gi_wp2
  refine bodyPost_ret (results_none rfl _ _ _) rfl ?_
  exact ⟨⟨_,rfl⟩,.inr ⟨_,trivial,hJx1⟩⟩
 have c1:W1.cell? ⟨b,o,none⟩=some (.slice a0 I cap):=(K6f (hk1 b hb) o).trans h1
 gi_wp2
 gi_loopw [14] (fun i wr=>∃ k:Nat,k<=I/\i = .int .i64 k/\J (c63 T k) wr/\wr.heap[b]?=W.heap[b]?) (fun i _=>I - (intOf i).toNat)
 case atStart=>exact ⟨0,Nat.zero_le _,rfl,by simpa [c63] using hJ1,hk1 b hb⟩
 case round =>
  obtain ⟨i,hi,rfl,hJi,hbi⟩:=hrel
  by_cases hlt:i<I
  ·gi_wp2
   gi_loopw [17] (fun u wr=>∃ v:Nat,v<=2/\u = .int .i64 v/\J (c63 T i++K27 T i v) wr/\wr.heap[b]?=W.heap[b]?) (fun u _=>2 - (intOf u).toNat)
   case atStart=>exact ⟨0,Nat.zero_le _,rfl,by simpa [K27] using hJi,hbi⟩
   case round =>
    obtain ⟨v,hv,rfl,hJv,hbv⟩:=hrel
    by_cases hv2:v<2
    ·have c2:=(K6f hbv (o+6)).trans h2
     gi_wp2
     rw [show decide ((v:Int)<2)=true from decide_eq_true (by omega)]
     gi_loopw [22] (fun z wr=>∃ t:Nat,t<=T/\z = .int .i64 t/\J (c63 T i++K27 T i v++K45 i v t) wr/\wr.heap[b]?=W.heap[b]?) (fun z _=>T - (intOf z).toNat)
     case atStart=>exact ⟨0,Nat.zero_le _,rfl,by simpa [K45] using hJv,hbv⟩
     case round =>
      obtain ⟨t,ht,rfl,hJt,hbt⟩:=hrel
      by_cases htl:t<T
      ·have hm1:(i+1) * (2 * T)<=I * (2 * T):=Nat.mul_le_mul_right _ hlt
       have hm2:(v+1) * T<=2 * T:=Nat.mul_le_mul_right _ hv2
       rw [Nat.add_mul,Nat.one_mul] at hm1 hm2
       obtain ⟨fn,tmps,assign,body,hy,hR⟩:=hY _ ((i:Int),(v:Int),(t:Int)) wr (hV i v t hlt hv2 htl) hJt (by rw [List.length_append,List.length_append,K6m,K65,K7n]; omega)
       dsimp only at hy
       gi_wp2
       refine hR.mono ?_
       clear hR hy
       rintro e W3 (⟨rfl,hJ3,hk3⟩|⟨rfl,hJx3⟩)
       ·gi_wp2
        go_roundw
        case rel =>
         exact ⟨t+1,by omega,by simp,by rw [K82,<- List.append_assoc]; exact hJ3,(hk3 b hb).trans hbt⟩
        case measure=>simp [intOf]; omega
       ·gi_wp2
        refine bodyPost_ret (results_none rfl _ _ _) rfl ?_
        exact ⟨⟨_,rfl⟩,.inr ⟨_,trivial,hJx3⟩⟩
      ·obtain rfl:t=T:=by omega
       gi_wp2
       go_roundw
       case rel=>exact ⟨v+1,by omega,by simp,by rw [K7o,<- List.append_assoc]; exact hJt,hbt⟩
       case measure=>simp [intOf]; omega
    ·obtain rfl:v=2:=by omega
     gi_wp2
     go_roundw
     case rel=>exact ⟨i+1,by omega,by simp,by rw [K7m]; exact hJv,hbv⟩
     case measure=>simp [intOf]; omega
  ·obtain rfl:i=I:=by omega
   gi_wp2
   go_end0
   exact ⟨⟨_,rfl⟩,.inl ⟨_,rfl,hJi⟩⟩
end Go.Proofs
