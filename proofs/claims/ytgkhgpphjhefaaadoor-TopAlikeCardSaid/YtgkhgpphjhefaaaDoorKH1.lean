/- That the texts make what their models say: printed by a program. -/
import Derived.Test.YtgkhgpphjhefaaaDoorUM
import Derived.Test.YtgkhgpphjhefaaaDoorKUM1
set_option linter.all false
namespace Go.Nw.UM
open Go.Nw.Tp2
set_option maxHeartbeats 4000000
variable {O:Orac} [MapsOk O]
noncomputable def r15 (s:List Int):Option (List Int):=match s with|[]=>some []|a :: l=>r1w (a :: l)
def nN (x:List Int):AV:=match x with|[]=>.v (.slice none 0 0)|a :: l=>.fs 1 (List.map eI (a :: l))
@[go_sem] def c84 (x:List Int):List AV:=[nN x]
@[go_sem] theorem r7g {x:List Int} {k:AV->Prop}:@b4y (nN x) ⟨k⟩=k (nN x):=rfl
theorem r3y (x:List Int):Frz (nN x):=by cases x with
 | nil=>exact .v _
 | cons a l=>exact b0c fun a _=>b1t a
theorem r3z {h:Heap} (x:List Int):Fz h (nN x) (.fs 1 (List.map eI x)):=by cases x with
 | nil=>exact .nil _
 | cons a l=>exact .refl _ (b0c fun a _=>b1t a)
theorem r18 (x:List Int):∀ c∈c84 x,Frz c:=b0a (r3y x) b0j
theorem r2f (x:List Int):(c84 x).length=1:=rfl
theorem r20 {b:Nat} {l r:List Int} {x:Int} (h:ap b l [x]=some r):nN r = .fs 1 (List.map eI r):=by
 obtain ⟨_,rfl⟩:=r9o h
 cases l <;> rfl
theorem r4c {x:AV}:∀ i,¬ b07 (.v (.slice none 0 0)) i->b07 x i:=fun _ h=>absurd trivial h
noncomputable def r1m:Option ((List Int) × Bool × Int) :=
 some ([],true,0)
noncomputable def r1n (at_14:Int) (runs_11_1:List (List Int)) (pairs_12_1:List control_pair) (found_13_1:List (control_pair × Int)):Option (Out ((List (List Int)) × (List control_pair) × (List (control_pair × Int)) × Int) (Unit ⊕ (((List Int) × Bool × Int)))) :=
 some (.nx (runs_11_1,pairs_12_1,found_13_1,wr (at_14+1)))
noncomputable def r04 (x_95:Int) (runs_11_2:List (List Int)) (pairs_12_2:List control_pair) (found_13_2:List (control_pair × Int)):Option (Out ((List (List Int)) × (List control_pair) × (List (control_pair × Int)) × Int) (((List (List Int)) × (List control_pair) × (List (control_pair × Int))))) :=
 some (.nx (runs_11_2,pairs_12_2,found_13_2,wr (x_95+1)))
noncomputable def r03 (a:Machine) (b:Machine) (assume:List (List Literal)) (at_14:Int) (x30:control_pair) (y40:Int):((List (List Int)) × (List control_pair) × (List (control_pair × Int)) × Int)->Option (Out ((List (List Int)) × (List control_pair) × (List (control_pair × Int)) × Int) (((List (List Int)) × (List control_pair) × (List (control_pair × Int)))))
 | (runs_11_1,pairs_12_1,found_13_1,x_95) =>
  if decide (x_95<y40) then
   (c1z (situation_Plant.mk (((b3h a).Plant).Machine)) assume (Place.mk x30.a.State (x30.a.Values.1,x30.a.Values.2)) x_95).bind fun y47 =>
   if !y47 then
    r04 x_95 runs_11_1 pairs_12_1 found_13_1
   else
    (r7y (situation_Plant.mk (((b3h a).Plant).Machine)) (Place.mk x30.a.State (x30.a.Values.1,x30.a.Values.2)) x_95).bind fun y52 =>
    (r7y (situation_Plant.mk (((b3h b).Plant).Machine)) (Place.mk x30.b.State (x30.b.Values.1,x30.b.Values.2)) x_95).bind fun y53 =>
    if !(b6m found_13_1 (control_pair.mk (Place.mk y52.State (y52.Values.1,y52.Values.2)) (Place.mk y53.State (y53.Values.1,y53.Values.2)))) then
     (ap 48 pairs_12_1 ([(control_pair.mk (Place.mk y52.State (y52.Values.1,y52.Values.2)) (Place.mk y53.State (y53.Values.1,y53.Values.2)))])).bind fun l56 =>
     (get runs_11_1 at_14).bind fun x61 =>
     (r15 x61).bind fun y62 =>
     (ap 8 y62 ([x_95])).bind fun l63 =>
     (ap 24 runs_11_1 ([l63])).bind fun l64 =>
     r04 x_95 l64 l56 (b3w found_13_1 (control_pair.mk (Place.mk y52.State (y52.Values.1,y52.Values.2)) (Place.mk y53.State (y53.Values.1,y53.Values.2))) ((List.length pairs_12_1:Nat):Int))
    else
     r04 x_95 runs_11_1 pairs_12_1 found_13_1
  else
   some (.br (runs_11_1,pairs_12_1,found_13_1))
noncomputable def s3v (a:Machine) (b:Machine) (assume:List (List Literal)):((List (List Int)) × (List control_pair) × (List (control_pair × Int)) × Int)->Option (Out ((List (List Int)) × (List control_pair) × (List (control_pair × Int)) × Int) (Unit ⊕ (((List Int) × Bool × Int))))
 | (runs_11,pairs_12,found_13,at_14) =>
  if decide (at_14<((List.length pairs_12:Nat):Int)) then
   (get pairs_12 at_14).bind fun x30 =>
   (get a.States x30.a.State).bind fun x33 =>
   (get b.States x30.b.State).bind fun x34 =>
   if decide (¬x33.Shows=x34.Shows) then
    (get runs_11 at_14).bind fun x38 =>
    some (.br (.inr (x38,false,0)))
   else
    (c1y (situation_Plant.mk (((b3h a).Plant).Machine))).bind fun y40 =>
    (b0w (r03 a b assume at_14 x30 y40) (runs_11,pairs_12,found_13,0)).bind fun
     | (runs_11_1,pairs_12_1,found_13_1)=>r1n at_14 runs_11_1 pairs_12_1 found_13_1
  else
   some (.br (.inl ()))
noncomputable def r02 (a:Machine) (b:Machine) (assume:List (List Literal)):Option ((List Int) × Bool × Int) :=
 (c2f a).bind fun y2 =>
 if decide (¬y2=0) then
  some ([],false,y2)
 else
  (c2f b).bind fun y6 =>
  if decide (¬y6=0) then
   some ([],false,y6)
  else
   (b9x a ([assume])).bind fun y10 =>
   if decide (¬y10=0) then
    some ([],false,y10)
   else
    (r1a a.Inputs b.Inputs).bind fun y16 =>
    (if !y16 then some true else (r1a a.Outputs b.Outputs).bind fun y17 =>
    some (!y17)).bind fun c18 =>
    if c18 then
     some ([],false,1)
    else
     (b0w (s3v a b assume) (([]++[([]:List Int)]),[(control_pair.mk (Place.mk 0 (0,0)) (Place.mk 0 (0,0)))],(b3w ([]:List (control_pair × Int)) (control_pair.mk (Place.mk 0 (0,0)) (Place.mk 0 (0,0))) 0),0)).bind fun
      | (.inl ())=>r1m
      | (.inr r')=>some r'
def r1z (O:Orac):Prop:=∀ (a:Machine) (b:Machine) (assume:List (List Literal)) (r:(List Int) × Bool × Int) (hm0:r02 a b assume=some r),Fn O "newel/control.Same" [.agg (vM a),.agg (vM b),.fs 1 (List.map b0t assume)] (.tup [.fs 1 (List.map eI r.1),B r.2.1,I r.2.2])
noncomputable def L11:Option Bool :=
 (L1k).bind fun y69 =>
 some y69
noncomputable def L1t (y59:(List Theory) × Int) (y61:(List Theory) × Int):Int->Option (Out Int (Unit ⊕ Bool))
 | r_26 =>
  if decide (r_26<(List.length y59.1:Int)) then
   (get y59.1 r_26).bind fun x76 =>
   (get y61.1 r_26).bind fun x77 =>
   if !(decide (x76.Input=x77.Input) && decide (x76.Value=x77.Value) && decide (x76.From=x77.From)) then
    some (.br (.inr false))
   else
    some (.nx (wr (r_26+1)))
  else
   some (.br (.inl ()))
noncomputable def L1x (a:Machine) (b:Machine) (x:neweltop_Alike):Option Bool :=
 (K5r (Accident.mk a x.Assume x.Ticks x.Records)).bind fun y59 =>
 (K5r (Accident.mk b x.Assume x.Ticks x.Records)).bind fun y61 =>
 if ((decide (¬y59.2=0)) || (decide (¬y61.2=0))) || (decide (¬(List.length y59.1:Int)=(List.length y61.1:Int))) then
  some false
 else
  (b0w (L1t y59 y61) (0)).bind fun
   | (.inl ())=>L11
   | (.inr r')=>some r'
noncomputable def L1s (y50:(List Int) × Int) (y52:(List Int) × Int):Int->Option (Out Int (Unit ⊕ Bool))
 | k_21 =>
  if decide (k_21<(List.length y50.1:Int)) then
   (get y50.1 k_21).bind fun x86 =>
   (get y52.1 k_21).bind fun x87 =>
   if decide (¬x86=x87) then
    some (.br (.inr false))
   else
    some (.nx (wr (k_21+1)))
  else
   some (.br (.inl ()))
noncomputable def L1u (a:Machine) (b:Machine) (x:neweltop_Alike):Option Bool :=
 (r02 a b ([])).bind fun y31 =>
 if (decide (¬y31.2.2=0)) || (!y31.2.1) then
  (if (decide (y31.2.2=0)) || (decide (y31.2.2=1)) then (L1k).bind fun y37 =>
  some y37 else some false).bind fun c38 =>
  some c38
 else
  (u0g (Accident.mk a x.Assume x.Ticks x.Records) x.Theory).bind fun y42 =>
  (u0g (Accident.mk b x.Assume x.Ticks x.Records) x.Theory).bind fun y44 =>
  if ((decide (¬y42.2=0)) || (decide (¬y44.2=0))) || (!(b5c y42.1 y44.1)) then
   some false
  else
   (s9i (Accident.mk a x.Assume x.Ticks x.Records) x.Theory).bind fun y50 =>
   (s9i (Accident.mk b x.Assume x.Ticks x.Records) x.Theory).bind fun y52 =>
   if (decide (¬y50.2=y52.2)) || (decide (¬(List.length y50.1:Int)=(List.length y52.1:Int))) then
    some false
   else
    (b0w (L1s y50 y52) (0)).bind fun
     | (.inl ())=>L1x a b x
     | (.inr r')=>some r'
noncomputable def L1n (x:neweltop_Alike):Int->Option (Out Int (Unit ⊕ Bool))
 | i_9 =>
  if decide (i_9<(List.length x.Records:Int)) then
   (get x.Records i_9).bind fun x96 =>
   (L1l x96.Cond).bind fun y97 =>
   if !y97 then
    (L1k).bind fun y100 =>
    some (.br (.inr y100))
   else
    some (.nx (wr (i_9+1)))
  else
   some (.br (.inl ()))
noncomputable def L1r (a:Machine) (b:Machine) (x:neweltop_Alike):Option Bool :=
 (s9o (Accident.mk a x.Assume x.Ticks x.Records)).bind fun y10 =>
 (if y10 then some true else (s9o (Accident.mk b x.Assume x.Ticks x.Records)).bind fun y11 =>
 some y11).bind fun c12 =>
 (if c12 then some true else (s9r (Accident.mk a x.Assume x.Ticks x.Records)).bind fun y13 =>
 some (decide (¬y13=0))).bind fun c14 =>
 (if c14 then some true else (s9r (Accident.mk b x.Assume x.Ticks x.Records)).bind fun y15 =>
 some (decide (¬y15=0))).bind fun c16 =>
 (if c16 || (!(l59 (Accident.mk a x.Assume x.Ticks x.Records) x.Theory)) then some true else (L1l x.Assume).bind fun y17 =>
 some (!y17)).bind fun c18 =>
 if c18 then
  (L1k).bind fun y27 =>
  some y27
 else
  (b0w (L1n x) (0)).bind fun
   | (.inl ())=>L1u a b x
   | (.inr r')=>some r'
def L15 (O:Orac):Prop:=∀ (a:Machine) (b:Machine) (x:neweltop_Alike) (r:Bool) (hm0:L1r a b x=some r),Fn O "newel/neweltop.TopAlike" [.agg (vM a),.agg (vM b),.agg [.fs 1 (List.map b0t x.Assume),I x.Ticks,.fs 4 (List.map c26 x.Records),I x.Theory.Input,I x.Theory.Value,I x.Theory.From]] (B r)
theorem r38 (hg:Has O "slices.Clone[[]int,int]" x_slices_Clone___int_int_):Fn O "slices.Clone[[]int,int]" [.v (.slice none 0 0)] (.v (.slice none 0 0)):=by
 refine b1i hg rfl (b0a (b0e _) b0j) (b0e _) ?_;refine b1c (fun t h=>t 0 = .v (.slice none 0 0)) rfl fun t h s0=>?_;simp only [x_slices_Clone___int_int_];apply b0b;intro K hK;simp only [go_sem];apply hK;refine b0v ?_;apply b0b;intro K hK;simp only [go_sem,s0,d83];apply hK;refine b0i fun K3 hK3=>?_;simp only [go_sem];apply b0b;intro K hK;simp only [go_sem];apply hK;simp only [b0x,b1p,b0y];exact b04 ve9 (b0e _)
theorem r1p (hf:Has O "newel/control.Same" x_control_Same) (hg:Has O "slices.Clone[[]int,int]" x_slices_Clone___int_int_) (d24:c96 O) (c3e:c5g O) (r1r:r13 O) (c3f:c5h O) (d2w:c9y O) (d2x:c9z O) (d20:c92 O) (r2d:r12 O):r1z O:=by
 intro a b assume r hm0;unfold r02 at hm0;refine b1i hf rfl (b0a (fM _) (b0a (fM _) (b0a (b0c fun a _=>b2j a) b0j))) (.tup _ (b0a (b0c fun a _=>b1t a) (b0a (b0e _) (b0a (b0e _) b0j)))) ?_;refine b1c (fun t h=>t 0 = .agg (vM a)/\t 1 = .agg (vM b)/\t 2 = .fs 1 (List.map b0t assume)) ⟨rfl,rfl,rfl⟩ fun t h ⟨s0,s1,s2⟩=>?_;simp only [x_control_Same];apply b0b;intro K hK;simp only [go_sem,s0,s1];apply hK;refine b0v ?_;obtain ⟨y2,h_y2,hm0⟩:=b0g hm0;apply b0b;intro K hK;simp only [go_sem];refine b01 (d24 a _ h_y2) ?_;simp only [go_sem];apply hK;refine b0v ?_;apply b0b;intro K hK;simp only [go_sem];apply hK;refine b0i fun K3 hK3=>?_;simp only [go_sem];refine b0k (fun hc4=>?_) (fun hc4=>?_)
 ·rw [b0r hc4] at hm0;apply b0b;intro K hK;simp only [go_sem];apply hK;simp only [b0x,b1p,b0y];obtain rfl:=sI9 hm0;exact c2l (v:=.v (.slice none 0 0)) (u:=B false) (x:=I y2) ve9 ve9 ve9 (.nil _) (.refl _ (b0e _)) (.refl _ (b0e _))
 ·rw [b0q hc4] at hm0;simp only [b0s,b0f];refine hK3 _ _ ?_;refine b0v ?_;obtain ⟨y6,h_y6,hm0⟩:=b0g hm0;apply b0b;intro K hK;simp only [go_sem];refine b01 (d24 b _ h_y6) ?_;simp only [go_sem];apply hK;refine b0v ?_;apply b0b;intro K hK;simp only [go_sem];apply hK;refine b0i fun K7 hK7=>?_;simp only [go_sem];refine b0k (fun hc8=>?_) (fun hc8=>?_)
  ·rw [b0r hc8] at hm0;apply b0b;intro K hK;simp only [go_sem];apply hK;simp only [b0x,b1p,b0y];obtain rfl:=sI9 hm0;exact c2l (v:=.v (.slice none 0 0)) (u:=B false) (x:=I y6) ve9 ve9 ve9 (.nil _) (.refl _ (b0e _)) (.refl _ (b0e _))
  ·rw [b0q hc8] at hm0;simp only [b0s,b0f];refine hK7 _ _ ?_;refine b0v ?_;obtain ⟨y10,h_y10,hm0⟩:=b0g hm0;apply b0b;intro K hK;simp only [go_sem,s2];refine b8l ?_ (c3e a ([assume]) _ h_y10) (.v _) ?_
   ·exact .cons (.refl _ (fM _)) (.cons (b29 (f:=b4v) (l:=([assume])) (id:=h.nx) ve9 vg9 b97 c7o) (.nil))
   simp only [go_sem];apply hK;refine b0v ?_;apply b0b;intro K hK;simp only [go_sem];apply hK;refine b0i fun K11 hK11=>?_;simp only [go_sem];refine b0k (fun hc12=>?_) (fun hc12=>?_)
   ·rw [b0r hc12] at hm0;apply b0b;intro K hK;simp only [go_sem];apply hK;simp only [b0x,b1p,b0y];obtain rfl:=sI9 hm0;exact c2l (v:=.v (.slice none 0 0)) (u:=B false) (x:=I y10) ve9 ve9 ve9 (.nil _) (.refl _ (b0e _)) (.refl _ (b0e _))
   ·rw [b0q hc12] at hm0;simp only [b0s,b0f];refine hK11 _ _ ?_;refine b0v ?_;obtain ⟨y16,h_y16,hm0⟩:=b0g hm0;obtain ⟨c18,h_c18,hm0⟩:=b0g hm0;refine b2p (fun t h=>t 2 = .fs 1 (List.map b0t assume)/\t 3 = .fp (vM a) 0/\t 4 = .fp (vM b) 0/\t 50=B c18) (fun K hK=>?_) ?_
    ·simp only [go_sem];refine b01 (r1r a.Inputs b.Inputs _ h_y16) ?_;simp only [go_sem];refine b0k (fun hg19=>?_) (fun hg19=>?_)
     ·simp only [hg19,eq_self,if_true] at h_c18;obtain rfl:=sI9 h_c18;simp only [go_sem,hg19];exact hK _ _ ⟨s2,vc9,vc9,vc9⟩
     ·simp only [hg19,if_false,fT9] at h_c18;obtain ⟨y17,h_y17,h_c18⟩:=b0g h_c18;obtain rfl:=sI9 h_c18;simp only [go_sem,hg19];refine b01 (r1r a.Outputs b.Outputs _ h_y17) ?_;simp only [go_sem,hg19];exact hK _ _ ⟨s2,vc9,vc9,vc9⟩
    ·rintro t h ⟨s2,s3,s4,s50⟩;refine b0i fun K20 hK20=>?_;simp only [go_sem,s50];refine b0k (fun hc21=>?_) (fun hc21=>?_)
     ·rw [b0r hc21] at hm0;apply b0b;intro K hK;simp only [go_sem];apply hK;simp only [b0x,b1p,b0y];obtain rfl:=sI9 hm0;exact c2l (v:=.v (.slice none 0 0)) (u:=B false) (x:=I 1) ve9 ve9 ve9 (.nil _) (.refl _ (b0e _)) (.refl _ (b0e _))
     ·rw [b0q hc21] at hm0;simp only [b0s,b0f];refine hK20 _ _ ?_;apply b0b;intro K hK;simp only [go_sem,s3];refine b01 (c3f a) ?_;simp only [go_sem,s4];refine b01 (c3f b) ?_;simp only [go_sem];apply hK;refine b0v ?_;apply b0b;intro K hK;simp only [go_sem];apply hK;refine g9k (id:=(nxs (nxs h.nx))) (sz:=1) (f:=c84) (l:=([])) (a:=([]:List Int)) (raw:=[.v (.slice none 0 0)]) (fun j=>false) ve9 (by simp) (.cons (.refl _ (b0e _)) (.nil)) r18 r2f ?_;apply b0b;intro K hK;simp only [go_sem];apply hK;apply b0b;intro K hK;simp only [go_sem];refine g0d (O:=O) (e:=List.map (eM (vks s3o) vI) ([]:List (control_pair × Int))) rfl ?_;simp only [go_sem,nF9];refine d2i (O:=O) (fk:=(vks s3o)) (fv:=vI) (l:=([]:List (control_pair × Int))) (x:=(control_pair.mk (Place.mk 0 (0,0)) (Place.mk 0 (0,0)))) (v:=0) g1t r2e ?_ ?_ ?_
      ·rfl
      ·simp only [go_sem]
      simp only [go_sem,nF9];apply hK;refine b0v ?_;apply b0b;intro K hK;simp only [go_sem];apply hK;refine b0i fun K22 hK22=>?_
      have J23:∀ (t:Slots) (h:Heap),r1m=some r->K22 t h:=by
       intro t h hm0;refine hK22 _ _ ?_;unfold r1m at hm0;apply b0b;intro K hK;simp only [go_sem];apply hK;simp only [b0x,b0y];obtain rfl:=sI9 hm0;exact c2l (v:=.v (.slice none 0 0)) (u:=B true) (x:=I 0) ve9 ve9 ve9 (.nil _) (.refl _ (b0e _)) (.refl _ (b0e _))
      simp only [b0u];obtain ⟨b24,hl24,hm0⟩:=b0g hm0;refine b1j hl24 (fun|(runs_11,pairs_12,found_13,at_14),t,h=>∃ i9 i10:Nat,∃ i11 i12 i13:Nat,t 2 = .fs 1 (List.map b0t assume)/\t 3 = .fp (vM a) 0/\t 4 = .fp (vM b) 0/\t 9 = .rp i9 0 0/\t 10 = .rp i10 0 0/\t 11 = .rs i11 0 (List.length runs_11)/\t 12 = .rs i12 0 (List.length pairs_12)/\t 13 = .mp i13/\t 14=I at_14/\h.ob i9=some (5,[[.fs 1 (List.map eS ((((b3h a).Plant).Machine).Inputs)),.fs 1 (List.map eS ((((b3h a).Plant).Machine).Outputs)),.fs 2 (List.map b0o ((((b3h a).Plant).Machine).Counters)),.fs 2 (List.map b0p ((((b3h a).Plant).Machine).States)),.fs 4 (List.map b0m ((((b3h a).Plant).Machine).Rules))]])/\i9<h.nx/\h.ob i10=some (5,[[.fs 1 (List.map eS ((((b3h b).Plant).Machine).Inputs)),.fs 1 (List.map eS ((((b3h b).Plant).Machine).Outputs)),.fs 2 (List.map b0o ((((b3h b).Plant).Machine).Counters)),.fs 2 (List.map b0p ((((b3h b).Plant).Machine).States)),.fs 4 (List.map b0m ((((b3h b).Plant).Machine).Rules))]])/\i10<h.nx/\h.ob i11=some (1,List.map c84 runs_11)/\i11<h.nx/\h.ob i12=some (6,List.map d7o pairs_12)/\i12<h.nx/\h.ob i13=some (0,List.map (eM (vks s3o) vI) found_13)/\i13<h.nx/\¬i9=i10/\¬i9=i11/\¬i9=i12/\¬i9=i13/\¬i10=i11/\¬i10=i12/\¬i10=i13/\¬i11=i12/\¬i11=i13/\¬i12=i13) ?_ ?_
      ·exact ⟨h.nx,(nxs h.nx),(nxs (nxs h.nx)),(nxs (nxs (nxs h.nx))),(nxs (nxs (nxs (nxs h.nx)))),s2,s3,s4,vc9,vc9,vc9,vc9,vc9,vc9,(by simp only [go_sem,nF9]),ve9,(by simp only [go_sem,nF9]),ve9,(by simp only [go_sem,nF9]),ve9,(by simp only [go_sem,nF9]),ve9,ve9,ve9,vd9,vd9,vd9,vd9,vd9,vd9,vd9,vd9,vd9,vd9⟩
      ·rintro ⟨runs_11,pairs_12,found_13,at_14⟩ o t h ⟨i9,i10,i11,i12,i13,s2,s3,s4,s9,s10,s11,s12,s13,s14,Q9,Q7,Qf,Q8,Qb,Q5,Qi,Qc,Qj,Q6,Qk,Ql,Qm,Qd,Qn,Qo,Qe,Qg,Qa,Qh⟩ hm1 hb24;simp only [s3v] at hm1;rw [r3e];refine b0v ?_;apply b0b;intro K hK;simp only [go_sem,s12,s14];apply hK;refine b0i fun K25 hK25=>?_;simp only [go_sem];refine b0k (fun hc26=>?_) (fun hc26=>?_)
       ·rw [b0r hc26] at hm1;simp only [b0s,b0f];refine hK25 _ _ ?_;refine b0i fun K27 hK27=>?_
        have J28:∀ (runs_11_1:List (List Int)) (pairs_12_1:List control_pair) (found_13_1:List (control_pair × Int)) (i11_1 i12_1:Nat) (t:Slots) (h:Heap),t 2 = .fs 1 (List.map b0t assume)->t 3 = .fp (vM a) 0->t 4 = .fp (vM b) 0->t 9 = .rp i9 0 0->t 10 = .rp i10 0 0->t 11 = .rs i11_1 0 (List.length runs_11_1)->t 12 = .rs i12_1 0 (List.length pairs_12_1)->t 13 = .mp i13->t 14=I at_14->h.ob i9=some (5,[[.fs 1 (List.map eS ((((b3h a).Plant).Machine).Inputs)),.fs 1 (List.map eS ((((b3h a).Plant).Machine).Outputs)),.fs 2 (List.map b0o ((((b3h a).Plant).Machine).Counters)),.fs 2 (List.map b0p ((((b3h a).Plant).Machine).States)),.fs 4 (List.map b0m ((((b3h a).Plant).Machine).Rules))]])->i9<h.nx->h.ob i10=some (5,[[.fs 1 (List.map eS ((((b3h b).Plant).Machine).Inputs)),.fs 1 (List.map eS ((((b3h b).Plant).Machine).Outputs)),.fs 2 (List.map b0o ((((b3h b).Plant).Machine).Counters)),.fs 2 (List.map b0p ((((b3h b).Plant).Machine).States)),.fs 4 (List.map b0m ((((b3h b).Plant).Machine).Rules))]])->i10<h.nx->h.ob i11_1=some (1,List.map c84 runs_11_1)->i11_1<h.nx->h.ob i12_1=some (6,List.map d7o pairs_12_1)->i12_1<h.nx->h.ob i13=some (0,List.map (eM (vks s3o) vI) found_13_1)->i13<h.nx->¬i9=i10->¬i9=i11_1->¬i9=i12_1->¬i9=i13->¬i10=i11_1->¬i10=i12_1->¬i10=i13->¬i11_1=i12_1->¬i11_1=i13->¬i12_1=i13->r1n at_14 runs_11_1 pairs_12_1 found_13_1=some o->K27 t h:=by
         try clear s2 s3 s4 s9 s10 s11 s12 s13 s14 Q9 Q7 Qf Q8 Qb Q5 Qi Qc Qj Q6 Qk Ql Qm Qd Qn Qo Qe Qg Qa Qh
         intro runs_11_1 pairs_12_1 found_13_1 i11_1 i12_1 t h s2 s3 s4 s9 s10 s11 s12 s13 s14 Q9 Q7 Qf Q8 Qb Q5 Qi Qc Qj Q6 Qk Ql Qm Qd Qn Qo Qe Qg Qa Qh hm1;refine hK27 _ _ ?_;unfold r1n at hm1;apply b03;intro K hK;simp only [go_sem,s14];apply hK;simp only [b0f];obtain rfl:=sI9 hm1;refine ⟨_,rfl,?_⟩;exact ⟨i9,i10,i11_1,i12_1,i13,s2,s3,s4,s9,s10,(by first|exact s11|simp only [go_sem,s11,lA9,mA9]),(by first|exact s12|simp only [go_sem,s12,lA9,mA9]),s13,vc9,Q9,Q7,Qf,Q8,Qb,Q5,Qi,Qc,Qj,Q6,Qk,Ql,Qm,Qd,Qn,Qo,Qe,Qg,Qa,Qh⟩
        simp only [b0u];obtain ⟨x30,h_x30,hm1⟩:=b0g hm1;have h_x300:=b05 h_x30;have h_x301:=b06 h_x30;apply b0b;intro K hK;simp only [go_sem,s12,s14,Qi,b3n h_x30,h_x300,h_x301];apply hK;refine b0v ?_;obtain ⟨x33,h_x33,hm1⟩:=b0g hm1;have h_x330:=b05 h_x33;have h_x331:=b06 h_x33;obtain ⟨x34,h_x34,hm1⟩:=b0g hm1;have h_x340:=b05 h_x34;have h_x341:=b06 h_x34;apply b0b;intro K hK;simp only [go_sem,s3,s4,b08 h_x33,b08 h_x34];apply hK;refine b0i fun K35 hK35=>?_;simp only [go_sem];refine b0k (fun hc36=>?_) (fun hc36=>?_)
        ·rw [b0r hc36] at hm1;obtain ⟨x38,h_x38,hm1⟩:=b0g hm1;have h_x380:=b05 h_x38;have h_x381:=b06 h_x38;apply b0b;intro K hK;simp only [go_sem,s11,s14,Qb,Q5,b3n h_x38,h_x380,h_x381];apply hK;simp only [b0x,b1p,b2e,b0y];obtain rfl:=sI9 hm1;obtain rfl:=hb24 _ rfl
         try dsimp only at hm0
         obtain rfl:=sI9 hm0;exact c2l ve9 ve9 ve9 (r3z x38) (.refl _ (b0e _)) (.refl _ (b0e _))
        ·rw [b0q hc36] at hm1;simp only [b0s,b0f];refine hK35 _ _ ?_;obtain ⟨y40,h_y40,hm1⟩:=b0g hm1;apply b0b;intro K hK;simp only [go_sem,s9,Q9,Q7];refine b01 (d2w (situation_Plant.mk (((b3h a).Plant).Machine)) _ h_y40) ?_;simp only [go_sem];apply hK;simp only [b0u];obtain ⟨b41,hl41,hm1⟩:=b0g hm1;refine b1j hl41 (fun|(runs_11_1,pairs_12_1,found_13_1,x_95),t,h=>∃ i11_1 i12_1 i15:Nat,t 2 = .fs 1 (List.map b0t assume)/\t 3 = .fp (vM a) 0/\t 4 = .fp (vM b) 0/\t 9 = .rp i9 0 0/\t 10 = .rp i10 0 0/\t 11 = .rs i11_1 0 (List.length runs_11_1)/\t 12 = .rs i12_1 0 (List.length pairs_12_1)/\t 13 = .mp i13/\t 14=I at_14/\t 15 = .rp i15 0 0/\t 94=I y40/\t 95=I x_95/\h.ob i9=some (5,[[.fs 1 (List.map eS ((((b3h a).Plant).Machine).Inputs)),.fs 1 (List.map eS ((((b3h a).Plant).Machine).Outputs)),.fs 2 (List.map b0o ((((b3h a).Plant).Machine).Counters)),.fs 2 (List.map b0p ((((b3h a).Plant).Machine).States)),.fs 4 (List.map b0m ((((b3h a).Plant).Machine).Rules))]])/\i9<h.nx/\h.ob i10=some (5,[[.fs 1 (List.map eS ((((b3h b).Plant).Machine).Inputs)),.fs 1 (List.map eS ((((b3h b).Plant).Machine).Outputs)),.fs 2 (List.map b0o ((((b3h b).Plant).Machine).Counters)),.fs 2 (List.map b0p ((((b3h b).Plant).Machine).States)),.fs 4 (List.map b0m ((((b3h b).Plant).Machine).Rules))]])/\i10<h.nx/\h.ob i11_1=some (1,List.map c84 runs_11_1)/\i11_1<h.nx/\h.ob i12_1=some (6,List.map d7o pairs_12_1)/\i12_1<h.nx/\h.ob i13=some (0,List.map (eM (vks s3o) vI) found_13_1)/\i13<h.nx/\h.ob i15=some (6,[[I x30.a.State,I x30.a.Values.1,I x30.a.Values.2,I x30.b.State,I x30.b.Values.1,I x30.b.Values.2]])/\i15<h.nx/\¬i9=i10/\¬i9=i11_1/\¬i9=i12_1/\¬i9=i13/\¬i9=i15/\¬i10=i11_1/\¬i10=i12_1/\¬i10=i13/\¬i10=i15/\¬i11_1=i12_1/\¬i11_1=i13/\¬i11_1=i15/\¬i12_1=i13/\¬i12_1=i15/\¬i13=i15) ?_ ?_
         ·exact ⟨i11,i12,h.nx,s2,s3,s4,s9,s10,(by first|exact s11|simp only [go_sem,s11,lA9,mA9]),(by first|exact s12|simp only [go_sem,s12,lA9,mA9]),s13,s14,vc9,vc9,vc9,(by simp only [go_sem,Q9,Q7]),(by simp only [go_sem,Q7]),(by simp only [go_sem,Qf,Q8]),(by simp only [go_sem,Q8]),(by simp only [go_sem,Qb,Q5]),(by simp only [go_sem,Q5]),(by simp only [go_sem,Qi,Qc]),(by simp only [go_sem,Qc]),(by simp only [go_sem,Qj,Q6]),(by simp only [go_sem,Q6]),ve9,ve9,Qk,Ql,Qm,Qd,vd9,Qn,Qo,Qe,vd9,Qg,Qa,vd9,Qh,vd9,vd9⟩
         ·try clear s2 s3 s4 s9 s10 s11 s12 s13 s14 Q9 Q7 Qf Q8 Qb Q5 Qi Qc Qj Q6 Qk Ql Qm Qd Qn Qo Qe Qg Qa Qh
          rintro ⟨runs_11_1,pairs_12_1,found_13_1,x_95⟩ o t h ⟨i11_1,i12_1,i15,s2,s3,s4,s9,s10,s11,s12,s13,s14,s15,s94,s95,Q9,Q7,Qf,Q8,Qb,Q5,Qi,Qc,Qj,Q6,Qp,Qq,Qk,Ql,Qm,Qd,Qs,Qn,Qo,Qe,Qt,Qg,Qa,Qu,Qh,Qv,Qr⟩ hm2 hb41;simp only [r03] at hm2;rw [r3d];apply b0b;intro K hK;simp only [go_sem,s94,s95];apply hK;refine b0i fun K42 hK42=>?_;simp only [go_sem];refine b0k (fun hc43=>?_) (fun hc43=>?_)
          ·rw [b0r hc43] at hm2;simp only [b0s,b0f];refine hK42 _ _ ?_;refine b0i fun K44 hK44=>?_
           have J45:∀ (runs_11_2:List (List Int)) (pairs_12_2:List control_pair) (found_13_2:List (control_pair × Int)) (i11_2 i12_2:Nat) (t:Slots) (h:Heap),t 2 = .fs 1 (List.map b0t assume)->t 3 = .fp (vM a) 0->t 4 = .fp (vM b) 0->t 9 = .rp i9 0 0->t 10 = .rp i10 0 0->t 11 = .rs i11_2 0 (List.length runs_11_2)->t 12 = .rs i12_2 0 (List.length pairs_12_2)->t 13 = .mp i13->t 14=I at_14->t 15 = .rp i15 0 0->t 94=I y40->t 95=I x_95->h.ob i9=some (5,[[.fs 1 (List.map eS ((((b3h a).Plant).Machine).Inputs)),.fs 1 (List.map eS ((((b3h a).Plant).Machine).Outputs)),.fs 2 (List.map b0o ((((b3h a).Plant).Machine).Counters)),.fs 2 (List.map b0p ((((b3h a).Plant).Machine).States)),.fs 4 (List.map b0m ((((b3h a).Plant).Machine).Rules))]])->i9<h.nx->h.ob i10=some (5,[[.fs 1 (List.map eS ((((b3h b).Plant).Machine).Inputs)),.fs 1 (List.map eS ((((b3h b).Plant).Machine).Outputs)),.fs 2 (List.map b0o ((((b3h b).Plant).Machine).Counters)),.fs 2 (List.map b0p ((((b3h b).Plant).Machine).States)),.fs 4 (List.map b0m ((((b3h b).Plant).Machine).Rules))]])->i10<h.nx->h.ob i11_2=some (1,List.map c84 runs_11_2)->i11_2<h.nx->h.ob i12_2=some (6,List.map d7o pairs_12_2)->i12_2<h.nx->h.ob i13=some (0,List.map (eM (vks s3o) vI) found_13_2)->i13<h.nx->h.ob i15=some (6,[[I x30.a.State,I x30.a.Values.1,I x30.a.Values.2,I x30.b.State,I x30.b.Values.1,I x30.b.Values.2]])->i15<h.nx->¬i9=i10->¬i9=i11_2->¬i9=i12_2->¬i9=i13->¬i9=i15->¬i10=i11_2->¬i10=i12_2->¬i10=i13->¬i10=i15->¬i11_2=i12_2->¬i11_2=i13->¬i11_2=i15->¬i12_2=i13->¬i12_2=i15->¬i13=i15->r04 x_95 runs_11_2 pairs_12_2 found_13_2=some o->K44 t h:=by
            try clear s2 s3 s4 s9 s10 s11 s12 s13 s14 s15 s94 s95 Q9 Q7 Qf Q8 Qb Q5 Qi Qc Qj Q6 Qp Qq Qk Ql Qm Qd Qs Qn Qo Qe Qt Qg Qa Qu Qh Qv Qr
            intro runs_11_2 pairs_12_2 found_13_2 i11_2 i12_2 t h s2 s3 s4 s9 s10 s11 s12 s13 s14 s15 s94 s95 Q9 Q7 Qf Q8 Qb Q5 Qi Qc Qj Q6 Qp Qq Qk Ql Qm Qd Qs Qn Qo Qe Qt Qg Qa Qu Qh Qv Qr hm2;refine hK44 _ _ ?_;unfold r04 at hm2;apply b03;intro K hK;simp only [go_sem,s95];apply hK;simp only [b0f];obtain rfl:=sI9 hm2;refine ⟨_,rfl,?_⟩;exact ⟨i11_2,i12_2,i15,s2,s3,s4,s9,s10,(by first|exact s11|simp only [go_sem,s11,lA9,mA9]),(by first|exact s12|simp only [go_sem,s12,lA9,mA9]),s13,s14,s15,s94,vc9,Q9,Q7,Qf,Q8,Qb,Q5,Qi,Qc,Qj,Q6,Qp,Qq,Qk,Ql,Qm,Qd,Qs,Qn,Qo,Qe,Qt,Qg,Qa,Qu,Qh,Qv,Qr⟩
           simp only [b0u];apply b0b;intro K hK;simp only [go_sem,s95];apply hK;refine b0v ?_;obtain ⟨y47,h_y47,hm2⟩:=b0g hm2;apply b0b;intro K hK;simp only [go_sem,s2,s9,s15,Q9,Qp];refine b01 (d2x (situation_Plant.mk (((b3h a).Plant).Machine)) assume (Place.mk x30.a.State (x30.a.Values.1,x30.a.Values.2)) x_95 _ h_y47) ?_;simp only [go_sem];apply hK;refine b0i fun K48 hK48=>?_;simp only [go_sem];refine b0k (fun hc49=>?_) (fun hc49=>?_)
           ·rw [b0r hc49] at hm2;simp only [b09,b1b,b1a,b0f];exact J45 runs_11_1 pairs_12_1 found_13_1 i11_1 i12_1 _ _ s2 s3 s4 s9 s10 (by first|exact s11|simp only [go_sem,s11,lA9,mA9]) (by first|exact s12|simp only [go_sem,s12,lA9,mA9]) s13 s14 s15 s94 s95 Q9 Q7 Qf Q8 Qb Q5 Qi Qc Qj Q6 Qp Qq Qk Ql Qm Qd Qs Qn Qo Qe Qt Qg Qa Qu Qh Qv Qr hm2
           ·rw [b0q hc49] at hm2;simp only [b0s,b0f];refine hK48 _ _ ?_;obtain ⟨y52,h_y52,hm2⟩:=b0g hm2;obtain ⟨y53,h_y53,hm2⟩:=b0g hm2;apply b0b;intro K hK;simp only [go_sem,s9,s15,Q9,Qp];refine b01 (d20 (situation_Plant.mk (((b3h a).Plant).Machine)) (Place.mk x30.a.State (x30.a.Values.1,x30.a.Values.2)) x_95 _ h_y52) ?_;simp only [go_sem,s10,s15,Qf,Qp];refine b01 (d20 (situation_Plant.mk (((b3h b).Plant).Machine)) (Place.mk x30.b.State (x30.b.Values.1,x30.b.Values.2)) x_95 _ h_y53) ?_;simp only [go_sem];apply hK;apply b0b;intro K hK;simp only [go_sem,s13];refine j5x (O:=O) (fk:=(vks s3o)) (fv:=vI) (l:=found_13_1) (x:=(control_pair.mk (Place.mk y52.State (y52.Values.1,y52.Values.2)) (Place.mk y53.State (y53.Values.1,y53.Values.2)))) (z:=0) j8c r2e ?_ ?_ ?_
            ·rfl
            ·simp only [go_sem,Qj,Q6]
            simp only [go_sem];apply hK;apply b0b;intro K hK;simp only [go_sem];apply hK;simp only [go_sem];refine b0k (fun hc54=>?_) (fun hc54=>?_)
            ·rw [b0r hc54] at hm2;apply b0b;intro K hK;simp only [go_sem,s12,s13];refine d2i (O:=O) (fk:=(vks s3o)) (fv:=vI) (l:=found_13_1) (x:=(control_pair.mk (Place.mk y52.State (y52.Values.1,y52.Values.2)) (Place.mk y53.State (y53.Values.1,y53.Values.2)))) (v:=((List.length pairs_12_1:Nat):Int)) g1t r2e ?_ ?_ ?_
             ·rfl
             ·simp only [go_sem,Qj,Q6]
             simp only [go_sem];apply hK;obtain ⟨l56,h_l56,hm2⟩:=b0g hm2;apply b0b;intro K hK;simp only [go_sem,s12,Q6];refine b3a (f:=d7o) (l:=pairs_12_1) (m:=([(control_pair.mk (Place.mk y52.State (y52.Values.1,y52.Values.2)) (Place.mk y53.State (y53.Values.1,y53.Values.2)))])) ?_ ?_ ?_ ?_ h_l56 ?_
             ·exact (b2v (by simp only [go_sem,Qi,Qc,Qh]) ve9 (by simp only [go_sem,Qc]))
             ·exact (b4t ve9 ve9)
             ·exact (b4r vf9)
             ·exact (fun _=>by simp)
             simp only [go_sem];apply hK;obtain ⟨x61,h_x61,hm2⟩:=b0g hm2;have h_x610:=b05 h_x61;have h_x611:=b06 h_x61;obtain ⟨y62,h_y62,hm2⟩:=b0g hm2;obtain ⟨l63,h_l63,hm2⟩:=b0g hm2;obtain ⟨l64,h_l64,hm9⟩:=b0g hm2;apply b0b;intro K hK;simp only [go_sem,s11,s14,Qb,Q5,Qg,Qa,b3n h_x61,h_x610,h_x611];rcases x61 with _|⟨a61,r61⟩
             ·simp only [nN];rw [<- sI9 h_y62] at h_l63;refine b01 (r38 hg) ?_;simp only [go_sem];refine b3a (f:=eI) (l:=([]:List Int)) (m:=([x_95])) ?_ ?_ ?_ ?_ h_l63 ?_
              ·exact .inl ⟨rfl,rfl⟩
              ·exact (b4t ve9 ve9)
              ·exact r4c
              ·exact (fun _=>by simp)
              simp only [go_sem];refine j3y (f:=c84) (l:=runs_11_1) (a:=l63) (raw:=[.rs (nxs (nxs (nxs (nxs h.nx)))) 0 (List.length l63)]) ?_ ?_ ?_ h_l64 ?_
              ·exact (b2v (by simp only [go_sem,Qb,Q5,Qg,Qa]) ve9 (by simp only [go_sem,Q5]))
              ·exact ve9
              ·exact vf9
              simp only [go_sem];apply hK;refine g9m ?_;refine g9k (id:=(nxs (nxs (nxs (nxs (nxs (nxs h.nx))))))) (sz:=1) (f:=c84) (l:=runs_11_1) (a:=l63) (raw:=[.rs (nxs (nxs (nxs (nxs h.nx)))) 0 (List.length l63)]) (fun j=>j == (nxs (nxs (nxs (nxs h.nx))))) ve9 (by first|(simp; done)|(simp [nxs] <;> omega)) (.cons (by rw [r20 h_l63]; exact b29 (f:=eI) (l:=l63) (id:=(nxs (nxs (nxs (nxs h.nx))))) (by rw [c3x (by simp)]; simp only [go_sem,Q5]) vg9 b1t b8p) (.nil)) r18 r2f ?_;rw [<- (r9o h_l64).2];simp only [b0s,b02,b0f];exact J45 l64 l56 (b3w found_13_1 (control_pair.mk (Place.mk y52.State (y52.Values.1,y52.Values.2)) (Place.mk y53.State (y53.Values.1,y53.Values.2))) ((List.length pairs_12_1:Nat):Int)) (nxs (nxs (nxs (nxs (nxs (nxs h.nx)))))) (nxs (nxs h.nx)) _ _ s2 s3 s4 s9 s10 vc9 vc9 s13 s14 s15 s94 s95 (by simp only [go_sem,bF9,ne_eq,nF9,Q9,Q7,Ql,Qm,Qd]) (by simp only [go_sem,Q7]) (by simp only [go_sem,bF9,ne_eq,nF9,Qf,Q8,Qn,Qo,Qe]) (by simp only [go_sem,Q8]) ve9 ve9 (by simp only [go_sem,bF9,ne_eq,nF9,Q5]) ve9 (by simp only [go_sem,bF9,ne_eq,nF9,Q6,b1z Qa,b1z Qh]) (by simp only [go_sem,Q6]) (by simp only [go_sem,bF9,ne_eq,nF9,Qp,Qq,b1z Qu,b1z Qv,b1z Qr]) (by simp only [go_sem,Qq]) Qk vd9 vd9 Qd Qs vd9 vd9 Qe Qt vd9 vd9 vd9 vd9 vd9 Qr hm9
             ·simp only [nN];refine j4w (e:=eI) (l:=y62) ?_ (r2d (a61 :: r61) _ h_y62) ?_
              ·exact .cons (.refl _ (b0c fun a _=>b1t a)) (.nil)
              simp only [go_sem];refine b3a (f:=eI) (l:=y62) (m:=([x_95])) ?_ ?_ ?_ ?_ h_l63 ?_
              ·exact (b2v ve9 ve9 ve9)
              ·exact (b4t ve9 ve9)
              ·exact (b4r vf9)
              ·exact (fun _=>by simp)
              simp only [go_sem];refine j3y (f:=c84) (l:=runs_11_1) (a:=l63) (raw:=[.rs (nxs (nxs (nxs (nxs (nxs h.nx))))) 0 (List.length l63)]) ?_ ?_ ?_ h_l64 ?_
              ·exact (b2v (by simp only [go_sem,Qb,Q5,Qg,Qa]) ve9 (by simp only [go_sem,Q5]))
              ·exact ve9
              ·exact vf9
              simp only [go_sem];apply hK;refine g9m ?_;refine g9k (id:=(nxs (nxs (nxs (nxs (nxs (nxs (nxs h.nx)))))))) (sz:=1) (f:=c84) (l:=runs_11_1) (a:=l63) (raw:=[.rs (nxs (nxs (nxs (nxs (nxs h.nx))))) 0 (List.length l63)]) (fun j=>j == (nxs (nxs (nxs (nxs (nxs h.nx)))))) ve9 (by first|(simp; done)|(simp [nxs] <;> omega)) (.cons (by rw [r20 h_l63]; exact b29 (f:=eI) (l:=l63) (id:=(nxs (nxs (nxs (nxs (nxs h.nx)))))) (by rw [c3x (by simp)]; simp only [go_sem,Q5]) vg9 b1t b8p) (.nil)) r18 r2f ?_;rw [<- (r9o h_l64).2];simp only [b0s,b02,b0f];exact J45 l64 l56 (b3w found_13_1 (control_pair.mk (Place.mk y52.State (y52.Values.1,y52.Values.2)) (Place.mk y53.State (y53.Values.1,y53.Values.2))) ((List.length pairs_12_1:Nat):Int)) (nxs (nxs (nxs (nxs (nxs (nxs (nxs h.nx))))))) (nxs (nxs h.nx)) _ _ s2 s3 s4 s9 s10 vc9 vc9 s13 s14 s15 s94 s95 (by simp only [go_sem,bF9,ne_eq,nF9,Q9,Q7,Ql,Qm,Qd]) (by simp only [go_sem,Q7]) (by simp only [go_sem,bF9,ne_eq,nF9,Qf,Q8,Qn,Qo,Qe]) (by simp only [go_sem,Q8]) ve9 ve9 (by simp only [go_sem,bF9,ne_eq,nF9,Q5]) ve9 (by simp only [go_sem,bF9,ne_eq,nF9,Q6,b1z Qa,b1z Qh]) (by simp only [go_sem,Q6]) (by simp only [go_sem,bF9,ne_eq,nF9,Qp,Qq,b1z Qu,b1z Qv,b1z Qr]) (by simp only [go_sem,Qq]) Qk vd9 vd9 Qd Qs vd9 vd9 Qe Qt vd9 vd9 vd9 vd9 vd9 Qr hm9
            ·rw [b0q hc54] at hm2;simp only [b0s,b02,b0f];exact J45 runs_11_1 pairs_12_1 found_13_1 i11_1 i12_1 _ _ s2 s3 s4 s9 s10 (by first|exact s11|simp only [go_sem,s11,lA9,mA9]) (by first|exact s12|simp only [go_sem,s12,lA9,mA9]) s13 s14 s15 s94 s95 (by simp only [go_sem,Q9,Q7]) (by simp only [go_sem,Q7]) (by simp only [go_sem,Qf,Q8]) (by simp only [go_sem,Q8]) (by simp only [go_sem,Qb,Q5]) (by simp only [go_sem,Q5]) (by simp only [go_sem,Qi,Qc]) (by simp only [go_sem,Qc]) (by simp only [go_sem,Qj,Q6]) (by simp only [go_sem,Q6]) (by simp only [go_sem,Qp,Qq]) (by simp only [go_sem,Qq]) Qk Ql Qm Qd Qs Qn Qo Qe Qt Qg Qa Qu Qh Qv Qr hm2
          ·rw [b0q hc43] at hm2;simp only [b09,b1b,b1a,b02,b0f];obtain rfl:=sI9 hm2;obtain rfl:=hb41 _ rfl
           try dsimp only at hm1
           exact J28 runs_11_1 pairs_12_1 found_13_1 i11_1 i12_1 _ _ s2 s3 s4 s9 s10 (by first|exact s11|simp only [go_sem,s11,lA9,mA9]) (by first|exact s12|simp only [go_sem,s12,lA9,mA9]) s13 s14 Q9 Q7 Qf Q8 Qb Q5 Qi Qc Qj Q6 Qk Ql Qm Qd Qn Qo Qe Qg Qa Qh hm1
       ·rw [b0q hc26] at hm1;simp only [b09,b1b,b1a,b0f];obtain rfl:=sI9 hm1;obtain rfl:=hb24 _ rfl
        try dsimp only at hm0
        exact J23  _ _  hm0
theorem L2s (hf:Has O "newel/neweltop.TopAlike" x_neweltop_TopAlike) (u3o:u2n O) (u0s:u1k O) (u3t:u2s O) (L1w:L1z O) (k_neweltop_measures:L16 O) (r1p:r1z O) (u3j:u2k O) (u3i:u2j O) (K6r:K6c O):L15 O:=by
 intro a b x r hm0;unfold L1r at hm0;refine b1i hf rfl (b0a (fM _) (b0a (fM _) (b0a (.agg _ (b0a (b0c fun a _=>b2j a) (b0a (b0e _) (b0a (b0c fun a _=>c17 a) (b0a (b0e _) (b0a (b0e _) (b0a (b0e _) b0j))))))) b0j))) (b0e _) ?_;refine b1c (fun t h=>t 0 = .agg (vM a)/\t 1 = .agg (vM b)/\t 2 = .agg [.fs 1 (List.map b0t x.Assume),I x.Ticks,.fs 4 (List.map c26 x.Records),I x.Theory.Input,I x.Theory.Value,I x.Theory.From]) ⟨rfl,rfl,rfl⟩ fun t h ⟨s0,s1,s2⟩=>?_;simp only [x_neweltop_TopAlike];apply b0b;intro K hK;simp only [go_sem,s0,s1,s2];apply hK;apply b0b;intro K hK;simp only [go_sem];apply hK;apply b0b;intro K hK;simp only [go_sem];apply hK;refine b0v ?_;obtain ⟨y10,h_y10,hm0⟩:=b0g hm0;obtain ⟨c12,h_c12,hm0⟩:=b0g hm0;obtain ⟨c14,h_c14,hm0⟩:=b0g hm0;obtain ⟨c16,h_c16,hm0⟩:=b0g hm0;obtain ⟨c18,h_c18,hm0⟩:=b0g hm0;refine b2p (fun t h=>∃ i7 i8:Nat,t 3 = .fp (vM a) 0/\t 4 = .fp (vM b) 0/\t 5 = .fp [.fs 1 (List.map b0t x.Assume),I x.Ticks,.fs 4 (List.map c26 x.Records),I x.Theory.Input,I x.Theory.Value,I x.Theory.From] 0/\t 7 = .rp i7 0 0/\t 8 = .rp i8 0 0/\t 71=B c18/\h.ob i7=some (8,[[.fs 1 (List.map eS a.Inputs),.fs 1 (List.map eS a.Outputs),.fs 2 (List.map b0o a.Counters),.fs 2 (List.map b0p a.States),.fs 4 (List.map b0m a.Rules),.fs 1 (List.map b0t x.Assume),I x.Ticks,.fs 4 (List.map c26 x.Records)]])/\i7<h.nx/\h.ob i8=some (8,[[.fs 1 (List.map eS b.Inputs),.fs 1 (List.map eS b.Outputs),.fs 2 (List.map b0o b.Counters),.fs 2 (List.map b0p b.States),.fs 4 (List.map b0m b.Rules),.fs 1 (List.map b0t x.Assume),I x.Ticks,.fs 4 (List.map c26 x.Records)]])/\i8<h.nx/\¬i7=i8) (fun K hK=>?_) ?_
 ·simp only [go_sem];refine b01 (u3o (Accident.mk a x.Assume x.Ticks x.Records) _ h_y10) ?_;simp only [go_sem];refine b0k (fun hg19=>?_) (fun hg19=>?_)
  ·simp only [hg19,eq_self,if_true] at h_c12;obtain rfl:=sI9 h_c12;simp only [eq_self,if_true] at h_c14;obtain rfl:=sI9 h_c14;simp only [eq_self,if_true] at h_c16;obtain rfl:=sI9 h_c16;simp only [eq_self,if_true,Bool.true_or] at h_c18;obtain rfl:=sI9 h_c18;simp only [go_sem,hg19];exact hK _ _ ⟨h.nx,(nxs h.nx),vc9,vc9,vc9,vc9,vc9,vc9,ve9,ve9,ve9,ve9,vd9⟩
  ·simp only [hg19,if_false,fT9] at h_c12;obtain ⟨y11,h_y11,h_c12⟩:=b0g h_c12;obtain rfl:=sI9 h_c12;simp only [go_sem,hg19];refine b01 (u3o (Accident.mk b x.Assume x.Ticks x.Records) _ h_y11) ?_;simp only [go_sem,hg19];refine b0k (fun hg20=>?_) (fun hg20=>?_)
   ·simp only [hg20,eq_self,if_true] at h_c14;obtain rfl:=sI9 h_c14;simp only [eq_self,if_true] at h_c16;obtain rfl:=sI9 h_c16;simp only [eq_self,if_true,Bool.true_or] at h_c18;obtain rfl:=sI9 h_c18;simp only [go_sem,hg19,hg20];exact hK _ _ ⟨h.nx,(nxs h.nx),vc9,vc9,vc9,vc9,vc9,vc9,ve9,ve9,ve9,ve9,vd9⟩
   ·simp only [hg20,if_false,fT9] at h_c14;obtain ⟨y13,h_y13,h_c14⟩:=b0g h_c14;obtain rfl:=sI9 h_c14;simp only [go_sem,hg19,hg20];refine b01 (u0s (Accident.mk a x.Assume x.Ticks x.Records) _ h_y13) ?_;simp only [go_sem,hg19,hg20];refine b0k (fun hg21=>?_) (fun hg21=>?_)
    ·simp only [hg21,eq_self,if_true] at h_c16;obtain rfl:=sI9 h_c16;simp only [eq_self,if_true,Bool.true_or] at h_c18;obtain rfl:=sI9 h_c18;simp only [go_sem,hg19,hg20,hg21];exact hK _ _ ⟨h.nx,(nxs h.nx),vc9,vc9,vc9,vc9,vc9,vc9,ve9,ve9,ve9,ve9,vd9⟩
    ·simp only [hg21,if_false,fT9] at h_c16;obtain ⟨y15,h_y15,h_c16⟩:=b0g h_c16;obtain rfl:=sI9 h_c16;simp only [go_sem,hg19,hg20,hg21];refine b01 (u0s (Accident.mk b x.Assume x.Ticks x.Records) _ h_y15) ?_;simp only [go_sem,hg19,hg20,hg21];refine b0k (fun hg22=>?_) (fun hg22=>?_)
     ·simp only [hg22,eq_self,if_true,Bool.true_or] at h_c18;obtain rfl:=sI9 h_c18;simp only [go_sem,hg19,hg20,hg21,hg22];exact hK _ _ ⟨h.nx,(nxs h.nx),vc9,vc9,vc9,vc9,vc9,vc9,ve9,ve9,ve9,ve9,vd9⟩
     ·simp only [go_sem,hg19,hg20,hg21,hg22];refine b01 (u3t (Accident.mk a x.Assume x.Ticks x.Records) x.Theory) ?_;simp only [go_sem,hg19,hg20,hg21,hg22];refine b0k (fun hg23=>?_) (fun hg23=>?_)
      ·simp only [hg22,hg23,eq_self,if_true,Bool.or_true] at h_c18;obtain rfl:=sI9 h_c18;simp only [go_sem,hg19,hg20,hg21,hg22,hg23];exact hK _ _ ⟨h.nx,(nxs h.nx),vc9,vc9,vc9,vc9,vc9,vc9,ve9,ve9,ve9,ve9,vd9⟩
      ·simp only [hg22,hg23,if_false,Bool.or_false,fT9] at h_c18;obtain ⟨y17,h_y17,h_c18⟩:=b0g h_c18;obtain rfl:=sI9 h_c18;simp only [go_sem,hg19,hg20,hg21,hg22,hg23];refine b01 (L1w x.Assume _ h_y17) ?_;simp only [go_sem,hg19,hg20,hg21,hg22,hg23];exact hK _ _ ⟨h.nx,(nxs h.nx),vc9,vc9,vc9,vc9,vc9,vc9,ve9,ve9,ve9,ve9,vd9⟩
 ·rintro t h ⟨i7,i8,s3,s4,s5,s7,s8,s71,Q0,Q2,Q1,Q3,Q4⟩;refine b0i fun K24 hK24=>?_;simp only [go_sem,s71];refine b0k (fun hc25=>?_) (fun hc25=>?_)
  ·rw [b0r hc25] at hm0;obtain ⟨y27,h_y27,hm0⟩:=b0g hm0;apply b0b;intro K hK;simp only [go_sem];refine b01 (k_neweltop_measures  _ h_y27) ?_;simp only [go_sem];apply hK;simp only [b0x,b1p,b0y];obtain rfl:=sI9 hm0;exact b04 ve9 (b0e _)
  ·rw [b0q hc25] at hm0;simp only [b0s,b0f];refine hK24 _ _ ?_;refine b0v ?_;apply b0b;intro K hK;simp only [go_sem];apply hK;refine b0i fun K28 hK28=>?_
   have J29:∀ (t:Slots) (h:Heap),t 3 = .fp (vM a) 0->t 4 = .fp (vM b) 0->t 5 = .fp [.fs 1 (List.map b0t x.Assume),I x.Ticks,.fs 4 (List.map c26 x.Records),I x.Theory.Input,I x.Theory.Value,I x.Theory.From] 0->t 7 = .rp i7 0 0->t 8 = .rp i8 0 0->h.ob i7=some (8,[[.fs 1 (List.map eS a.Inputs),.fs 1 (List.map eS a.Outputs),.fs 2 (List.map b0o a.Counters),.fs 2 (List.map b0p a.States),.fs 4 (List.map b0m a.Rules),.fs 1 (List.map b0t x.Assume),I x.Ticks,.fs 4 (List.map c26 x.Records)]])->i7<h.nx->h.ob i8=some (8,[[.fs 1 (List.map eS b.Inputs),.fs 1 (List.map eS b.Outputs),.fs 2 (List.map b0o b.Counters),.fs 2 (List.map b0p b.States),.fs 4 (List.map b0m b.Rules),.fs 1 (List.map b0t x.Assume),I x.Ticks,.fs 4 (List.map c26 x.Records)]])->i8<h.nx->¬i7=i8->L1u a b x=some r->K28 t h:=by
    try clear s3 s4 s5 s7 s8 s71 Q0 Q2 Q1 Q3 Q4
    intro t h s3 s4 s5 s7 s8 Q0 Q2 Q1 Q3 Q4 hm0;refine hK28 _ _ ?_;unfold L1u at hm0;obtain ⟨y31,h_y31,hm0⟩:=b0g hm0;apply b0b;intro K hK;simp only [go_sem,s3,s4];refine r2x ?_ (b0a (fM _) (b0a (fM _) (b0a (b0e _) b0j))) (r1p a b ([]) _ h_y31) ?_
    ·exact .cons (.refl _ (fM _)) (.cons (.refl _ (fM _)) (.cons (.nil _) (.nil)))
    simp only [go_sem];apply hK;refine b0v ?_;refine b2p (fun t h=>t 5 = .fp [.fs 1 (List.map b0t x.Assume),I x.Ticks,.fs 4 (List.map c26 x.Records),I x.Theory.Input,I x.Theory.Value,I x.Theory.From] 0/\t 7 = .rp i7 0 0/\t 8 = .rp i8 0 0/\t 12=I y31.2.2/\t 101=B ((decide (¬y31.2.2=0)) || (!y31.2.1))/\h.ob i7=some (8,[[.fs 1 (List.map eS a.Inputs),.fs 1 (List.map eS a.Outputs),.fs 2 (List.map b0o a.Counters),.fs 2 (List.map b0p a.States),.fs 4 (List.map b0m a.Rules),.fs 1 (List.map b0t x.Assume),I x.Ticks,.fs 4 (List.map c26 x.Records)]])/\i7<h.nx/\h.ob i8=some (8,[[.fs 1 (List.map eS b.Inputs),.fs 1 (List.map eS b.Outputs),.fs 2 (List.map b0o b.Counters),.fs 2 (List.map b0p b.States),.fs 4 (List.map b0m b.Rules),.fs 1 (List.map b0t x.Assume),I x.Ticks,.fs 4 (List.map c26 x.Records)]])/\i8<h.nx/\¬i7=i8) (fun K hK=>?_) ?_
    ·simp only [go_sem];refine b0k (fun hg32=>?_) (fun hg32=>?_)
     ·simp only [go_sem,hg32];exact hK _ _ ⟨s5,s7,s8,vc9,(by first|(simp only [go_sem,hg32]; done)|rfl),Q0,Q2,Q1,Q3,Q4⟩
     ·simp only [go_sem,hg32];exact hK _ _ ⟨s5,s7,s8,vc9,(by first|(simp only [go_sem,hg32]; done)|rfl),Q0,Q2,Q1,Q3,Q4⟩
    ·try clear s3 s4 s5 s7 s8 Q0 Q2 Q1 Q3 Q4
     rintro t h ⟨s5,s7,s8,s12,s101,Q0,Q2,Q1,Q3,Q4⟩;refine b0i fun K33 hK33=>?_;simp only [go_sem,s101];refine b0k (fun hc34=>?_) (fun hc34=>?_)
     ·rw [b0r hc34] at hm0;obtain ⟨c38,h_c38,hm0⟩:=b0g hm0;refine b2p (fun t h=>t 6=B c38) (fun K hK=>?_) ?_
      ·simp only [go_sem,s12];refine b0k (fun hg39=>?_) (fun hg39=>?_)
       ·simp only [hg39,eq_self,if_true,Bool.true_or] at h_c38;obtain ⟨y37,h_y37,h_c38⟩:=b0g h_c38;obtain rfl:=sI9 h_c38;simp only [go_sem,hg39];refine b01 (k_neweltop_measures  _ h_y37) ?_;simp only [go_sem,hg39];exact hK _ _ vc9
       ·simp only [go_sem,s12,hg39];refine b0k (fun hg40=>?_) (fun hg40=>?_)
        ·simp only [hg39,hg40,eq_self,if_true,Bool.or_true] at h_c38;obtain ⟨y37,h_y37,h_c38⟩:=b0g h_c38;obtain rfl:=sI9 h_c38;simp only [go_sem,hg39,hg40];refine b01 (k_neweltop_measures  _ h_y37) ?_;simp only [go_sem,hg39,hg40];exact hK _ _ vc9
        ·simp only [hg39,hg40,if_false,Bool.or_false,fT9] at h_c38;obtain rfl:=sI9 h_c38;simp only [go_sem,hg39,hg40];exact hK _ _ vc9
      ·try clear s5 s7 s8 s12 s101 Q0 Q2 Q1 Q3 Q4
       rintro t h s6;simp only [b0x,b1p,b0y];obtain rfl:=sI9 hm0;exact b04 (by simp only [go_sem,s6]) (b0e _)
     ·rw [b0q hc34] at hm0;simp only [b0s,b0f];refine hK33 _ _ ?_;obtain ⟨y42,h_y42,hm0⟩:=b0g hm0;apply b0b;intro K hK;simp only [go_sem,s5,s7,Q0];refine b01 (u3j (Accident.mk a x.Assume x.Ticks x.Records) x.Theory _ h_y42) ?_;simp only [go_sem];apply hK;obtain ⟨y44,h_y44,hm0⟩:=b0g hm0;apply b0b;intro K hK;simp only [go_sem,s5,s8,Q1];refine b01 (u3j (Accident.mk b x.Assume x.Ticks x.Records) x.Theory _ h_y44) ?_;simp only [go_sem];apply hK;refine b0v ?_;refine b2p (fun t h=>t 5 = .fp [.fs 1 (List.map b0t x.Assume),I x.Ticks,.fs 4 (List.map c26 x.Records),I x.Theory.Input,I x.Theory.Value,I x.Theory.From] 0/\t 7 = .rp i7 0 0/\t 8 = .rp i8 0 0/\t 135=B (((decide (¬y42.2=0)) || (decide (¬y44.2=0))) || (!(b5c y42.1 y44.1)))/\h.ob i7=some (8,[[.fs 1 (List.map eS a.Inputs),.fs 1 (List.map eS a.Outputs),.fs 2 (List.map b0o a.Counters),.fs 2 (List.map b0p a.States),.fs 4 (List.map b0m a.Rules),.fs 1 (List.map b0t x.Assume),I x.Ticks,.fs 4 (List.map c26 x.Records)]])/\i7<h.nx/\h.ob i8=some (8,[[.fs 1 (List.map eS b.Inputs),.fs 1 (List.map eS b.Outputs),.fs 2 (List.map b0o b.Counters),.fs 2 (List.map b0p b.States),.fs 4 (List.map b0m b.Rules),.fs 1 (List.map b0t x.Assume),I x.Ticks,.fs 4 (List.map c26 x.Records)]])/\i8<h.nx/\¬i7=i8) (fun K hK=>?_) ?_
      ·simp only [go_sem];refine b0k (fun hg45=>?_) (fun hg45=>?_)
       ·simp only [go_sem,hg45];exact hK _ _ ⟨s5,s7,s8,(by first|(simp only [go_sem,hg45]; done)|rfl),Q0,Q2,Q1,Q3,Q4⟩
       ·simp only [go_sem,hg45];refine b0k (fun hg46=>?_) (fun hg46=>?_)
        ·simp only [go_sem,hg45,hg46];exact hK _ _ ⟨s5,s7,s8,(by first|(simp only [go_sem,hg45,hg46]; done)|rfl),Q0,Q2,Q1,Q3,Q4⟩
        ·simp only [go_sem,hg45,hg46];exact hK _ _ ⟨s5,s7,s8,(by first|(simp only [go_sem,hg45,hg46]; done)|rfl),Q0,Q2,Q1,Q3,Q4⟩
      ·try clear s5 s7 s8 s12 s101 Q0 Q2 Q1 Q3 Q4
       rintro t h ⟨s5,s7,s8,s135,Q0,Q2,Q1,Q3,Q4⟩;refine b0i fun K47 hK47=>?_;simp only [go_sem,s135];refine b0k (fun hc48=>?_) (fun hc48=>?_)
       ·rw [b0r hc48] at hm0;apply b0b;intro K hK;simp only [go_sem];apply hK;simp only [b0x,b1p,b0y];obtain rfl:=sI9 hm0;exact b04 ve9 (b0e _)
       ·rw [b0q hc48] at hm0;simp only [b0s,b0f];refine hK47 _ _ ?_;obtain ⟨y50,h_y50,hm0⟩:=b0g hm0;apply b0b;intro K hK;simp only [go_sem,s5,s7,Q0];refine b01 (u3i (Accident.mk a x.Assume x.Ticks x.Records) x.Theory _ h_y50) ?_;simp only [go_sem];apply hK;obtain ⟨y52,h_y52,hm0⟩:=b0g hm0;apply b0b;intro K hK;simp only [go_sem,s5,s8,Q1];refine b01 (u3i (Accident.mk b x.Assume x.Ticks x.Records) x.Theory _ h_y52) ?_;simp only [go_sem];apply hK;refine b0v ?_;refine b2p (fun t h=>t 7 = .rp i7 0 0/\t 8 = .rp i8 0 0/\t 17 = .fs 1 (List.map eI y50.1)/\t 19 = .fs 1 (List.map eI y52.1)/\t 159=B ((decide (¬y50.2=y52.2)) || (decide (¬(List.length y50.1:Int)=(List.length y52.1:Int))))/\h.ob i7=some (8,[[.fs 1 (List.map eS a.Inputs),.fs 1 (List.map eS a.Outputs),.fs 2 (List.map b0o a.Counters),.fs 2 (List.map b0p a.States),.fs 4 (List.map b0m a.Rules),.fs 1 (List.map b0t x.Assume),I x.Ticks,.fs 4 (List.map c26 x.Records)]])/\i7<h.nx/\h.ob i8=some (8,[[.fs 1 (List.map eS b.Inputs),.fs 1 (List.map eS b.Outputs),.fs 2 (List.map b0o b.Counters),.fs 2 (List.map b0p b.States),.fs 4 (List.map b0m b.Rules),.fs 1 (List.map b0t x.Assume),I x.Ticks,.fs 4 (List.map c26 x.Records)]])/\i8<h.nx/\¬i7=i8) (fun K hK=>?_) ?_
        ·simp only [go_sem];refine b0k (fun hg53=>?_) (fun hg53=>?_)
         ·simp only [go_sem,hg53];exact hK _ _ ⟨s7,s8,vc9,vc9,(by first|(simp only [go_sem,hg53]; done)|rfl),Q0,Q2,Q1,Q3,Q4⟩
         ·simp only [go_sem,hg53];exact hK _ _ ⟨s7,s8,vc9,vc9,(by first|(simp only [go_sem,hg53]; done)|rfl),Q0,Q2,Q1,Q3,Q4⟩
        ·try clear s5 s7 s8 s135 Q0 Q2 Q1 Q3 Q4
         rintro t h ⟨s7,s8,s17,s19,s159,Q0,Q2,Q1,Q3,Q4⟩;refine b0i fun K54 hK54=>?_;simp only [go_sem,s159];refine b0k (fun hc55=>?_) (fun hc55=>?_)
         ·rw [b0r hc55] at hm0;apply b0b;intro K hK;simp only [go_sem];apply hK;simp only [b0x,b1p,b0y];obtain rfl:=sI9 hm0;exact b04 ve9 (b0e _)
         ·rw [b0q hc55] at hm0;simp only [b0s,b0f];refine hK54 _ _ ?_;refine b0v ?_;apply b0b;intro K hK;simp only [go_sem];apply hK;refine b0i fun K56 hK56=>?_
          have J57:∀ (t:Slots) (h:Heap),t 7 = .rp i7 0 0->t 8 = .rp i8 0 0->h.ob i7=some (8,[[.fs 1 (List.map eS a.Inputs),.fs 1 (List.map eS a.Outputs),.fs 2 (List.map b0o a.Counters),.fs 2 (List.map b0p a.States),.fs 4 (List.map b0m a.Rules),.fs 1 (List.map b0t x.Assume),I x.Ticks,.fs 4 (List.map c26 x.Records)]])->i7<h.nx->h.ob i8=some (8,[[.fs 1 (List.map eS b.Inputs),.fs 1 (List.map eS b.Outputs),.fs 2 (List.map b0o b.Counters),.fs 2 (List.map b0p b.States),.fs 4 (List.map b0m b.Rules),.fs 1 (List.map b0t x.Assume),I x.Ticks,.fs 4 (List.map c26 x.Records)]])->i8<h.nx->¬i7=i8->L1x a b x=some r->K56 t h:=by
           try clear s7 s8 s17 s19 s159 Q0 Q2 Q1 Q3 Q4
           intro t h s7 s8 Q0 Q2 Q1 Q3 Q4 hm0;refine hK56 _ _ ?_;unfold L1x at hm0;obtain ⟨y59,h_y59,hm0⟩:=b0g hm0;apply b0b;intro K hK;simp only [go_sem,s7,Q0];refine b01 (K6r (Accident.mk a x.Assume x.Ticks x.Records) _ h_y59) ?_;simp only [go_sem];apply hK;obtain ⟨y61,h_y61,hm0⟩:=b0g hm0;apply b0b;intro K hK;simp only [go_sem,s8,Q1];refine b01 (K6r (Accident.mk b x.Assume x.Ticks x.Records) _ h_y61) ?_;simp only [go_sem];apply hK;refine b0v ?_;refine b2p (fun t h=>t 22 = .fs 3 (List.map u26 y59.1)/\t 24 = .fs 3 (List.map u26 y61.1)/\t 197=B (((decide (¬y59.2=0)) || (decide (¬y61.2=0))) || (decide (¬(List.length y59.1:Int)=(List.length y61.1:Int))))) (fun K hK=>?_) ?_
           ·simp only [go_sem];refine b0k (fun hg62=>?_) (fun hg62=>?_)
            ·simp only [go_sem,hg62];exact hK _ _ ⟨vc9,vc9,(by first|(simp only [go_sem,hg62]; done)|rfl)⟩
            ·simp only [go_sem,hg62];refine b0k (fun hg63=>?_) (fun hg63=>?_)
             ·simp only [go_sem,hg62,hg63];exact hK _ _ ⟨vc9,vc9,(by first|(simp only [go_sem,hg62,hg63]; done)|rfl)⟩
             ·simp only [go_sem,hg62,hg63];exact hK _ _ ⟨vc9,vc9,(by first|(simp only [go_sem,hg62,hg63]; done)|rfl)⟩
           ·rintro t h ⟨s22,s24,s197⟩;refine b0i fun K64 hK64=>?_;simp only [go_sem,s197];refine b0k (fun hc65=>?_) (fun hc65=>?_)
            ·rw [b0r hc65] at hm0;apply b0b;intro K hK;simp only [go_sem];apply hK;simp only [b0x,b1p,b0y];obtain rfl:=sI9 hm0;exact b04 ve9 (b0e _)
            ·rw [b0q hc65] at hm0;simp only [b0s,b0f];refine hK64 _ _ ?_;refine b0v ?_;apply b0b;intro K hK;simp only [go_sem];apply hK;refine b0i fun K66 hK66=>?_
             have J67:∀ (t:Slots) (h:Heap),L11=some r->K66 t h:=by
              intro t h hm0;refine hK66 _ _ ?_;unfold L11 at hm0;obtain ⟨y69,h_y69,hm0⟩:=b0g hm0;apply b0b;intro K hK;simp only [go_sem];refine b01 (k_neweltop_measures  _ h_y69) ?_;simp only [go_sem];apply hK;simp only [b0x,b0y];obtain rfl:=sI9 hm0;exact b04 ve9 (b0e _)
             simp only [b0u];obtain ⟨b70,hl70,hm0⟩:=b0g hm0;refine b1j hl70 (fun|r_26,t,h=>t 22 = .fs 3 (List.map u26 y59.1)/\t 24 = .fs 3 (List.map u26 y61.1)/\t 26=I r_26) ?_ ?_
             ·exact ⟨s22,s24,vc9⟩
             ·rintro r_26 o t h ⟨s22,s24,s26⟩ hm1 hb70;simp only [L1t] at hm1;rw [L2h];refine b0v ?_;apply b0b;intro K hK;simp only [go_sem,s22,s26];apply hK;refine b0i fun K71 hK71=>?_;simp only [go_sem];refine b0k (fun hc72=>?_) (fun hc72=>?_)
              ·rw [b0r hc72] at hm1;simp only [b0s,b0f];refine hK71 _ _ ?_;refine b0i fun K73 hK73=>?_;simp only [b0u];obtain ⟨x76,h_x76,hm1⟩:=b0g hm1;have h_x760:=b05 h_x76;have h_x761:=b06 h_x76;obtain ⟨x77,h_x77,hm1⟩:=b0g hm1;have h_x770:=b05 h_x77;have h_x771:=b06 h_x77;apply b0b;intro K hK;simp only [go_sem,s22,s24,s26,b08 h_x76,h_x761,b08 h_x77];apply hK;simp only [go_sem];refine b0k (fun hc78=>?_) (fun hc78=>?_)
               ·rw [b0r hc78] at hm1;apply b0b;intro K hK;simp only [go_sem];apply hK;simp only [b0x,b1p,b2e,b0y];obtain rfl:=sI9 hm1;obtain rfl:=hb70 _ rfl
                try dsimp only at hm0
                obtain rfl:=sI9 hm0;exact b04 ve9 (b0e _)
               ·rw [b0q hc78] at hm1;simp only [b0s,b02,b0f];refine hK73 _ _ ?_;apply b03;intro K hK;simp only [go_sem,s26];apply hK;simp only [b0f];obtain rfl:=sI9 hm1;refine ⟨_,rfl,?_⟩;exact ⟨s22,s24,vc9⟩
              ·rw [b0q hc72] at hm1;simp only [b09,b1b,b1a,b0f];obtain rfl:=sI9 hm1;obtain rfl:=hb70 _ rfl
               try dsimp only at hm0
               exact J67  _ _  hm0
          simp only [b0u];obtain ⟨b80,hl80,hm0⟩:=b0g hm0;refine b1j hl80 (fun|k_21,t,h=>t 7 = .rp i7 0 0/\t 8 = .rp i8 0 0/\t 17 = .fs 1 (List.map eI y50.1)/\t 19 = .fs 1 (List.map eI y52.1)/\t 21=I k_21/\h.ob i7=some (8,[[.fs 1 (List.map eS a.Inputs),.fs 1 (List.map eS a.Outputs),.fs 2 (List.map b0o a.Counters),.fs 2 (List.map b0p a.States),.fs 4 (List.map b0m a.Rules),.fs 1 (List.map b0t x.Assume),I x.Ticks,.fs 4 (List.map c26 x.Records)]])/\i7<h.nx/\h.ob i8=some (8,[[.fs 1 (List.map eS b.Inputs),.fs 1 (List.map eS b.Outputs),.fs 2 (List.map b0o b.Counters),.fs 2 (List.map b0p b.States),.fs 4 (List.map b0m b.Rules),.fs 1 (List.map b0t x.Assume),I x.Ticks,.fs 4 (List.map c26 x.Records)]])/\i8<h.nx/\¬i7=i8) ?_ ?_
          ·exact ⟨s7,s8,s17,s19,vc9,Q0,Q2,Q1,Q3,Q4⟩
          ·try clear s7 s8 s17 s19 s159 Q0 Q2 Q1 Q3 Q4
           rintro k_21 o t h ⟨s7,s8,s17,s19,s21,Q0,Q2,Q1,Q3,Q4⟩ hm1 hb80;simp only [L1s] at hm1;rw [L2g];refine b0v ?_;apply b0b;intro K hK;simp only [go_sem,s17,s21];apply hK;refine b0i fun K81 hK81=>?_;simp only [go_sem];refine b0k (fun hc82=>?_) (fun hc82=>?_)
           ·rw [b0r hc82] at hm1;simp only [b0s,b0f];refine hK81 _ _ ?_;refine b0i fun K83 hK83=>?_;simp only [b0u];obtain ⟨x86,h_x86,hm1⟩:=b0g hm1;have h_x860:=b05 h_x86;have h_x861:=b06 h_x86;obtain ⟨x87,h_x87,hm1⟩:=b0g hm1;have h_x870:=b05 h_x87;have h_x871:=b06 h_x87;apply b0b;intro K hK;simp only [go_sem,s17,s19,s21,b08 h_x86,h_x861,b08 h_x87];apply hK;simp only [go_sem];refine b0k (fun hc88=>?_) (fun hc88=>?_)
            ·rw [b0r hc88] at hm1;apply b0b;intro K hK;simp only [go_sem];apply hK;simp only [b0x,b1p,b2e,b0y];obtain rfl:=sI9 hm1;obtain rfl:=hb80 _ rfl
             try dsimp only at hm0
             obtain rfl:=sI9 hm0;exact b04 ve9 (b0e _)
            ·rw [b0q hc88] at hm1;simp only [b0s,b02,b0f];refine hK83 _ _ ?_;apply b03;intro K hK;simp only [go_sem,s21];apply hK;simp only [b0f];obtain rfl:=sI9 hm1;refine ⟨_,rfl,?_⟩;exact ⟨s7,s8,s17,s19,vc9,Q0,Q2,Q1,Q3,Q4⟩
           ·rw [b0q hc82] at hm1;simp only [b09,b1b,b1a,b0f];obtain rfl:=sI9 hm1;obtain rfl:=hb80 _ rfl
            try dsimp only at hm0
            exact J57  _ _ s7 s8 Q0 Q2 Q1 Q3 Q4 hm0
   simp only [b0u];obtain ⟨b90,hl90,hm0⟩:=b0g hm0;refine b1j hl90 (fun|i_9,t,h=>t 3 = .fp (vM a) 0/\t 4 = .fp (vM b) 0/\t 5 = .fp [.fs 1 (List.map b0t x.Assume),I x.Ticks,.fs 4 (List.map c26 x.Records),I x.Theory.Input,I x.Theory.Value,I x.Theory.From] 0/\t 7 = .rp i7 0 0/\t 8 = .rp i8 0 0/\t 9=I i_9/\h.ob i7=some (8,[[.fs 1 (List.map eS a.Inputs),.fs 1 (List.map eS a.Outputs),.fs 2 (List.map b0o a.Counters),.fs 2 (List.map b0p a.States),.fs 4 (List.map b0m a.Rules),.fs 1 (List.map b0t x.Assume),I x.Ticks,.fs 4 (List.map c26 x.Records)]])/\i7<h.nx/\h.ob i8=some (8,[[.fs 1 (List.map eS b.Inputs),.fs 1 (List.map eS b.Outputs),.fs 2 (List.map b0o b.Counters),.fs 2 (List.map b0p b.States),.fs 4 (List.map b0m b.Rules),.fs 1 (List.map b0t x.Assume),I x.Ticks,.fs 4 (List.map c26 x.Records)]])/\i8<h.nx/\¬i7=i8) ?_ ?_
   ·exact ⟨s3,s4,s5,s7,s8,vc9,Q0,Q2,Q1,Q3,Q4⟩
   ·try clear s3 s4 s5 s7 s8 s71 Q0 Q2 Q1 Q3 Q4
    rintro i_9 o t h ⟨s3,s4,s5,s7,s8,s9,Q0,Q2,Q1,Q3,Q4⟩ hm1 hb90;simp only [L1n] at hm1;rw [L2f];refine b0v ?_;apply b0b;intro K hK;simp only [go_sem,s5,s9];apply hK;refine b0i fun K91 hK91=>?_;simp only [go_sem];refine b0k (fun hc92=>?_) (fun hc92=>?_)
    ·rw [b0r hc92] at hm1;simp only [b0s,b0f];refine hK91 _ _ ?_;refine b0i fun K93 hK93=>?_;simp only [b0u];obtain ⟨x96,h_x96,hm1⟩:=b0g hm1;have h_x960:=b05 h_x96;have h_x961:=b06 h_x96;obtain ⟨y97,h_y97,hm1⟩:=b0g hm1;apply b0b;intro K hK;simp only [go_sem,s5,s9,b08 h_x96,h_x961];refine b01 (L1w x96.Cond _ h_y97) ?_;simp only [go_sem];apply hK;simp only [go_sem];refine b0k (fun hc98=>?_) (fun hc98=>?_)
     ·rw [b0r hc98] at hm1;obtain ⟨y100,h_y100,hm1⟩:=b0g hm1;apply b0b;intro K hK;simp only [go_sem];refine b01 (k_neweltop_measures  _ h_y100) ?_;simp only [go_sem];apply hK;simp only [b0x,b1p,b2e,b0y];obtain rfl:=sI9 hm1;obtain rfl:=hb90 _ rfl
      try dsimp only at hm0
      obtain rfl:=sI9 hm0;exact b04 ve9 (b0e _)
     ·rw [b0q hc98] at hm1;simp only [b0s,b02,b0f];refine hK93 _ _ ?_;apply b03;intro K hK;simp only [go_sem,s9];apply hK;simp only [b0f];obtain rfl:=sI9 hm1;refine ⟨_,rfl,?_⟩;exact ⟨s3,s4,s5,s7,s8,vc9,Q0,Q2,Q1,Q3,Q4⟩
    ·rw [b0q hc92] at hm1;simp only [b09,b1b,b1a,b0f];obtain rfl:=sI9 hm1;obtain rfl:=hb90 _ rfl
     try dsimp only at hm0
     exact J29  _ _ s3 s4 s5 s7 s8 Q0 Q2 Q1 Q3 Q4 hm0
end Go.Nw.UM
