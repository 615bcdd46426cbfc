/- Plain laws on the models. -/
import Derived.Test.YtgkhgpphjhefaaaDoorUM
import Derived.Test.YtgkhgpphjhefaaaDoorP1
import Derived.Test.YtgkhgpphjhefaaaDoorNwMaps
set_option linter.all false
namespace Go.Nw.UM
open Go.Nw.Tp2
set_option maxHeartbeats 4000000
variable {O:Orac} [MapsOk O]
theorem c64 (n:Int):∀ a∈[AV.v (.slice none 0 0),I n],Frz a:=b0a (b0e _) (b0a (b0e _) b0j)
theorem j7a (hf:Has O "slices.Grow[[]string,string]" x_slices_Grow___string_string_) (n:Int) (h0:0<n) (h1:n * 16<=2 ^ 40) :
  O "slices.Grow[[]string,string]" [.v (.slice none 0 0),I n] (.rs 0 0 0) [(1,List.replicate n.toNat [.v (.string (ByteArray.mk #[]))])]:=by
 refine c7b hf rfl (c64 n) ?_
 refine b1c (fun t h=>t 0 = .v (.slice none 0 0)/\t 1=I n) ⟨rfl,rfl⟩ fun t h hs=>?_
 obtain ⟨s0,s1⟩:=hs
 simp only [x_slices_Grow___string_string_]
 refine b0b fun K hK=>?_
 simp only [go_sem]
 refine hK _ _ (b0v (b0b fun K hK=>?_))
 simp only [go_sem,s0,s1]
 refine hK _ _ (b0i fun K hK=>?_)
 simp only [go_sem]
 refine b0k (fun hc=>?_) (fun hc=>?_)
 ·have : n<0:=of_decide_eq_true hc
  omega
 simp only [b0s,b02,b0f]
 refine hK _ _ (b0v (b0b fun K hK=>?_))
 simp only [go_sem,s0,s1]
 refine d19 ?_
 simp only [go_sem,s0,s1]
 refine hK _ _ (b0v (b0b fun K hK=>?_))
 have e1:wr (n - wr (0 - 0))=n:=by
  rw [b3t (n:=(0:Int) - 0) (by omega) (by omega),b3t (by omega) (by omega)]; omega
 simp only [go_sem,s0,s1,e1]
 refine hK _ _ (b0i fun K hK=>?_)
 simp only [go_sem,s0,s1,e1]
 refine b0k (fun hc=>?_) (fun hc=>?_)
 ·rw [b5n]
  simp only [go_sem,s0,s1,e1]
  refine d19 ?_
  simp only [go_sem,s0,s1,e1]
  refine j6x ?_
  simp only [go_sem,s0,s1,e1]
  refine j3z h0 h1 ?_
  simp only [go_sem,s0,s1,e1]
  refine j6y (n:=1) (rows:=List.replicate n.toNat [.v (.string (ByteArray.mk #[]))]) (by simp only [go_sem]) ?_
  simp only [go_sem,s0,s1,e1,b0f]
  refine hK _ _ (b0b fun K hK=>?_)
  simp only [go_sem]
  refine hK _ _ ?_
  simp only [b0x,b0y]
  refine g9t (id:=h.nx) (by simp only [go_sem]) (by simp only [go_sem]) fun r hr=>?_
  obtain ⟨_,rfl⟩:=List.mem_replicate.1 hr
  exact ⟨rfl,fun c hc=>⟨_,List.mem_singleton.1 hc⟩⟩
 ·have : ¬ 0<n:=of_decide_eq_false hc
  omega
theorem j7b (hf:Has O "slices.Grow[[]string,string]" x_slices_Grow___string_string_) :
  O "slices.Grow[[]string,string]" [.v (.slice none 0 0),I 0] (.v (.slice none 0 0)) []:=by
 refine c7b hf rfl (c64 0) ?_
 refine b1c (fun t h=>t 0 = .v (.slice none 0 0)/\t 1=I 0) ⟨rfl,rfl⟩ fun t h hs=>?_
 obtain ⟨s0,s1⟩:=hs
 simp only [x_slices_Grow___string_string_]
 refine b0b fun K hK=>?_
 simp only [go_sem]
 refine hK _ _ (b0v (b0b fun K hK=>?_))
 simp only [go_sem,s0,s1]
 refine hK _ _ (b0i fun K hK=>?_)
 simp only [go_sem]
 refine b0k (fun hc=>?_) (fun hc=>?_)
 ·have : (0:Int)<0:=of_decide_eq_true hc
  omega
 simp only [b0s,b02,b0f]
 refine hK _ _ (b0v (b0b fun K hK=>?_))
 simp only [go_sem,s0,s1]
 refine d19 ?_
 simp only [go_sem,s0,s1]
 refine hK _ _ (b0v (b0b fun K hK=>?_))
 have e1:wr (0 - wr (0 - 0))=0:=by decide
 simp only [go_sem,s0,s1,e1]
 refine hK _ _ (b0i fun K hK=>?_)
 simp only [go_sem,s0,s1,e1]
 refine b0k (fun hc=>?_) (fun hc=>?_)
 ·have : (0:Int)<0:=of_decide_eq_true hc
  omega
 ·simp only [b0s,b02,b0f]
  refine hK _ _ (b0b fun K hK=>?_)
  simp only [go_sem,s0]
  refine hK _ _ ?_
  simp only [b0x,b0y]
  exact b04 (by simp only [go_sem]) (b0e _)
theorem d3q (hf:Has O "slices.Concat[[]string,string]" x_slices_Concat___string_string_) (hg:Has O "slices.Grow[[]string,string]" x_slices_Grow___string_string_):d0t O:=by
 intro sl r hm
 unfold c9i at hm
 split at hm
 case isFalse=>cases hm
 rename_i hc
 obtain ⟨hc1,hc2,hc3⟩:=hc
 cases hm
 refine j04 hf rfl (b0a (b0c fun a _=>c65 a) b0j) g2n ?_
 refine b1c (fun t h=>t 0 = .fs 1 (List.map b4f sl)) rfl fun t h s0=>?_
 simp only [x_slices_Concat___string_string_]
 refine b0b fun K hK=>?_
 simp only [go_sem]
 refine hK _ _ (b0b fun K hK=>?_)
 simp only [go_sem]
 refine hK _ _ (b0v (b0b fun K hK=>?_))
 simp only [go_sem,s0,List.length_map]
 refine hK _ _ (b0i fun K hK=>?_)
 simp only [b0u]
 have hle:∀ i,(sl.take i).flatten.length<=sl.flatten.length:=fun i=>by
  have := congrArg (fun l=>(List.flatten l).length) (List.take_append_drop i sl)
  simp only [List.flatten_append,List.length_append] at this
  omega
 refine c2k (fun k t h=>t 0 = .fs 1 (List.map b4f sl)/\t 9 = .fs 1 (List.map b4f sl)/\t 10=I (sl.length:Int)/\∃ i:Nat,i<=sl.length/\k=sl.length - i/\t 11=I (i:Int)/\t 3=I ((sl.take i).flatten.length:Int)) sl.length ?_ ?_
 ·exact ⟨by simp only [go_sem,s0],by simp only [go_sem,s0],by simp only [go_sem],0,by omega,by omega,by simp only [go_sem]; rfl,by simp only [go_sem]; rfl⟩
 ·rintro k t h ⟨s0,s9,s10,i,hi,hk,s11,s3⟩
  rw [d5n]
  refine b0b fun K2 hK2=>?_
  simp only [go_sem,s10,s11]
  refine hK2 _ _ (b0i fun K3 hK3=>?_)
  simp only [go_sem]
  refine b0k (fun hb=>?_) (fun hb=>?_)
  ·simp only [b0s,b0f]
   refine hK3 _ _ (b0i fun K4 hK4=>?_)
   simp only [b0u]
   have hlt:i<sl.length:=by have:=of_decide_eq_true hb; omega
   have hx:sl[i]?=some sl[i]:=gG9 hlt
   generalize sl[i]=x at hx
   have h_x:get sl (i:Int)=some x:=by unfold get; rw [if_pos (by omega)]; simpa using hx
   have hfl:=c9m hx
   have hlen:(sl.take (i+1)).flatten.length=(sl.take i).flatten.length+x.length:=by rw [hfl,List.length_append]
   have hb1:=hle (i+1)
   refine b0b fun K5 hK5=>?_
   simp only [go_sem,s9,s11,b08 h_x,b3n h_x,b05 h_x,b06 h_x]
   refine hK5 _ _ (b0b fun K5 hK5=>?_)
   have e1:wr (((sl.take i).flatten.length:Int)+(x.length:Int))=((sl.take (i+1)).flatten.length:Int):=by
    rw [b3t (by omega) (by omega)]; omega
   simp only [go_sem,s3,List.length_map,e1]
   refine hK5 _ _ (b0b fun K5 hK5=>?_)
   simp only [go_sem]
   refine hK5 _ _ ?_
   simp only [go_sem]
   refine b0k (fun hd=>?_) (fun hd=>?_)
   ·have := of_decide_eq_true hd
    omega
   simp only [b0s,b02,b0f]
   refine hK4 _ _ ?_
   rw [b5n]
   have e2:wr ((i:Int)+1)=((i+1:Nat):Int):=by rw [b3t (by omega) (by omega)]; omega
   simp only [go_sem,s11,e2,b0f]
   exact ⟨k - 1,by omega,by simp only [go_sem,s0],by simp only [go_sem,s9],by simp only [go_sem,s10],i+1,by omega,by omega,by simp only [go_sem],by simp only [go_sem]⟩
  ·have hge:sl.length<=i:=by have:=of_decide_eq_false hb; omega
   have hie:i=sl.length:=by omega
   subst hie
   simp only [b09,b1b,b1a,c0s,b02,b0f,Nat.reduceEqDiff,not_false_eq_true]
   refine hK _ _ (b0b fun K hK=>?_)
   simp only [go_sem,s3]
   rw [List.take_length]
   refine j4v (c64 _) (j7a hg _ (by omega) (by omega)) (fun r hr=>?_) ?_
   ·obtain ⟨_,rfl⟩:=List.mem_replicate.1 hr
    exact ⟨rfl,fun c hc=>⟨_,List.mem_singleton.1 hc⟩⟩
   simp only [go_sem]
   refine hK _ _ (b0v (b0b fun K hK=>?_))
   simp only [go_sem,s0,List.length_map]
   refine hK _ _ (b0i fun K hK=>?_)
   simp only [b0u]
   refine c2k (fun k t h=>t 25 = .fs 1 (List.map b4f sl)/\t 26=I (sl.length:Int)/\∃ (i id:Nat) (es:List (List AV)),i<=sl.length/\k=sl.length - i/\t 27=I (i:Int)/\t 6 = .rs id 0 (List.length (sl.take i).flatten)/\h.ob id=some (1,es)/\id<h.nx/\es.take (sl.take i).flatten.length=List.map eS (sl.take i).flatten/\(sl.take i).flatten.length<=es.length/\(0<i->es=List.map eS (sl.take i).flatten)) sl.length ?_ ?_
   ·exact ⟨by simp only [go_sem,s0],by simp only [go_sem],0,h.nx,List.replicate (Int.toNat (sl.flatten.length:Int)) [.v (.string (ByteArray.mk #[]))],by omega,by omega,by simp only [go_sem]; rfl,by simp only [go_sem]; rfl,by simp only [go_sem],by simp only [go_sem],by simp,by simp,fun h=>by omega⟩
   ·rintro k t h ⟨s25,s26,i,id,es,hi,hk,s27,s6,ho,hlt0,he,hel,hex⟩
    rw [d5m]
    refine b0b fun K2 hK2=>?_
    simp only [go_sem,s26,s27]
    refine hK2 _ _ (b0i fun K3 hK3=>?_)
    simp only [go_sem]
    refine b0k (fun hb=>?_) (fun hb=>?_)
    ·simp only [b0s,b0f]
     refine hK3 _ _ (b0i fun K4 hK4=>?_)
     simp only [b0u]
     have hlt:i<sl.length:=by have:=of_decide_eq_true hb; omega
     have hx:sl[i]?=some sl[i]:=gG9 hlt
     generalize sl[i]=x at hx
     have h_x:get sl (i:Int)=some x:=by unfold get; rw [if_pos (by omega)]; simpa using hx
     have hfl:=c9m hx
     have hlen:(sl.take (i+1)).flatten.length=(sl.take i).flatten.length+x.length:=by rw [hfl,List.length_append]
     have hb1:=hle (i+1)
     refine b0b fun K5 hK5=>?_
     simp only [go_sem,s25,s27,b08 h_x,b3n h_x,b05 h_x,b06 h_x]
     refine hK5 _ _ ?_
     rw [b5n]
     simp only [go_sem,s6]
     refine j3v (f:=eS) (r:=(sl.take (i+1)).flatten) ho he hel (by rw [hfl]; exact b9k (by omega)) ?_
     simp only [go_sem,b02,b0f]
     refine hK4 _ _ ?_
     rw [b5n]
     have e2:wr ((i:Int)+1)=((i+1:Nat):Int):=by rw [b3t (by omega) (by omega)]; omega
     simp only [go_sem,s27,e2,b0f]
     exact ⟨k - 1,by omega,by simp only [go_sem,s25],by simp only [go_sem,s26],i+1,h.nx,_,by omega,by omega,by simp only [go_sem],by simp only [go_sem],by simp only [go_sem],by simp only [go_sem],List.take_of_length_le (Nat.le_of_eq (List.length_map _)),Nat.le_of_eq (List.length_map _).symm,fun _=>rfl⟩
    ·have hge:sl.length<=i:=by have:=of_decide_eq_false hb; omega
     have hie:i=sl.length:=by omega
     subst hie
     simp only [b09,b1b,b1a,c0s,b02,b0f,Nat.reduceEqDiff,not_false_eq_true]
     refine hK _ _ (b0b fun K hK=>?_)
     rw [List.take_length] at s6 hex
     simp only [go_sem,s6]
     refine hK _ _ ?_
     simp only [b0x,b0y]
     have hpos:0<sl.length:=by
      cases sl with
      | nil=>simp at hc3
      | cons a l=>simp
     rw [hex hpos] at ho
     exact g9v (id:=id) (by simp only [go_sem]) (by simp only [go_sem,ho]) g2n
theorem d3r (hf:Has O "slices.Concat[[]string,string]" x_slices_Concat___string_string_) (hg:Has O "slices.Grow[[]string,string]" x_slices_Grow___string_string_):d0u O:=by
 intro sl r hm
 unfold c9j at hm
 split at hm
 case isFalse=>cases hm
 rename_i hc
 obtain ⟨hc1,hc2⟩:=hc
 cases hm
 refine b1i hf rfl (b0a (b0c fun a _=>c65 a) b0j) (b0e _) ?_
 refine b1c (fun t h=>t 0 = .fs 1 (List.map b4f sl)) rfl fun t h s0=>?_
 simp only [x_slices_Concat___string_string_]
 refine b0b fun K hK=>?_
 simp only [go_sem]
 refine hK _ _ (b0b fun K hK=>?_)
 simp only [go_sem]
 refine hK _ _ (b0v (b0b fun K hK=>?_))
 simp only [go_sem,s0,List.length_map]
 refine hK _ _ (b0i fun K hK=>?_)
 simp only [b0u]
 have hle:∀ i,(sl.take i).flatten.length<=sl.flatten.length:=fun i=>by
  have := congrArg (fun l=>(List.flatten l).length) (List.take_append_drop i sl)
  simp only [List.flatten_append,List.length_append] at this
  omega
 refine c2k (fun k t h=>t 0 = .fs 1 (List.map b4f sl)/\t 9 = .fs 1 (List.map b4f sl)/\t 10=I (sl.length:Int)/\∃ i:Nat,i<=sl.length/\k=sl.length - i/\t 11=I (i:Int)/\t 3=I ((sl.take i).flatten.length:Int)) sl.length ?_ ?_
 ·exact ⟨by simp only [go_sem,s0],by simp only [go_sem,s0],by simp only [go_sem],0,by omega,by omega,by simp only [go_sem]; rfl,by simp only [go_sem]; rfl⟩
 ·rintro k t h ⟨s0,s9,s10,i,hi,hk,s11,s3⟩
  rw [d5n]
  refine b0b fun K2 hK2=>?_
  simp only [go_sem,s10,s11]
  refine hK2 _ _ (b0i fun K3 hK3=>?_)
  simp only [go_sem]
  refine b0k (fun hb=>?_) (fun hb=>?_)
  ·simp only [b0s,b0f]
   refine hK3 _ _ (b0i fun K4 hK4=>?_)
   simp only [b0u]
   have hlt:i<sl.length:=by have:=of_decide_eq_true hb; omega
   have hx:sl[i]?=some sl[i]:=gG9 hlt
   generalize sl[i]=x at hx
   have h_x:get sl (i:Int)=some x:=by unfold get; rw [if_pos (by omega)]; simpa using hx
   have hfl:=c9m hx
   have hlen:(sl.take (i+1)).flatten.length=(sl.take i).flatten.length+x.length:=by rw [hfl,List.length_append]
   have hb1:=hle (i+1)
   refine b0b fun K5 hK5=>?_
   simp only [go_sem,s9,s11,b08 h_x,b3n h_x,b05 h_x,b06 h_x]
   refine hK5 _ _ (b0b fun K5 hK5=>?_)
   have e1:wr (((sl.take i).flatten.length:Int)+(x.length:Int))=((sl.take (i+1)).flatten.length:Int):=by
    rw [b3t (by omega) (by omega)]; omega
   simp only [go_sem,s3,List.length_map,e1]
   refine hK5 _ _ (b0b fun K5 hK5=>?_)
   simp only [go_sem]
   refine hK5 _ _ ?_
   simp only [go_sem]
   refine b0k (fun hd=>?_) (fun hd=>?_)
   ·have := of_decide_eq_true hd
    omega
   simp only [b0s,b02,b0f]
   refine hK4 _ _ ?_
   rw [b5n]
   have e2:wr ((i:Int)+1)=((i+1:Nat):Int):=by rw [b3t (by omega) (by omega)]; omega
   simp only [go_sem,s11,e2,b0f]
   exact ⟨k - 1,by omega,by simp only [go_sem,s0],by simp only [go_sem,s9],by simp only [go_sem,s10],i+1,by omega,by omega,by simp only [go_sem],by simp only [go_sem]⟩
  ·have hge:sl.length<=i:=by have:=of_decide_eq_false hb; omega
   have hie:i=sl.length:=by omega
   subst hie
   simp only [b09,b1b,b1a,c0s,b02,b0f,Nat.reduceEqDiff,not_false_eq_true]
   refine hK _ _ (b0b fun K hK=>?_)
   simp only [go_sem,s3]
   rw [List.take_length]
   rw [hc1]
   refine b01 ⟨j7b hg,c64 _,b0e _⟩ ?_
   simp only [go_sem]
   refine hK _ _ (b0v (b0b fun K hK=>?_))
   simp only [go_sem,s0,List.length_map]
   refine hK _ _ (b0i fun K hK=>?_)
   simp only [b0u]
   refine c2k (fun k t h=>t 25 = .fs 1 (List.map b4f sl)/\t 26=I (sl.length:Int)/\∃ i:Nat,i<=sl.length/\k=sl.length - i/\t 27=I (i:Int)/\t 6 = .v (.slice none 0 0)) sl.length ?_ ?_
   ·exact ⟨by simp only [go_sem,s0],by simp only [go_sem],0,by omega,by omega,by simp only [go_sem]; rfl,by simp only [go_sem]⟩
   ·rintro k t h ⟨s25,s26,i,hi,hk,s27,s6⟩
    rw [d5m]
    refine b0b fun K2 hK2=>?_
    simp only [go_sem,s26,s27]
    refine hK2 _ _ (b0i fun K3 hK3=>?_)
    simp only [go_sem]
    refine b0k (fun hb=>?_) (fun hb=>?_)
    ·simp only [b0s,b0f]
     refine hK3 _ _ (b0i fun K4 hK4=>?_)
     simp only [b0u]
     have hlt:i<sl.length:=by have:=of_decide_eq_true hb; omega
     have hx:sl[i]?=some sl[i]:=gG9 hlt
     generalize sl[i]=x at hx
     have h_x:get sl (i:Int)=some x:=by unfold get; rw [if_pos (by omega)]; simpa using hx
     have hfl:=c9m hx
     have hlen:(sl.take (i+1)).flatten.length=(sl.take i).flatten.length+x.length:=by rw [hfl,List.length_append]
     have hb1:=hle (i+1)
     have hx0:x=[]:=List.eq_nil_of_length_eq_zero (by omega)
     subst hx0
     refine b0b fun K5 hK5=>?_
     simp only [go_sem,s25,s27,b08 h_x,b3n h_x,b05 h_x,b06 h_x]
     refine hK5 _ _ ?_
     rw [b5n]
     simp only [go_sem,s6]
     refine j3x ?_
     simp only [go_sem,b02,b0f]
     refine hK4 _ _ ?_
     have e2:wr ((i:Int)+1)=((i+1:Nat):Int):=by rw [b3t (by omega) (by omega)]; omega
     refine b03 fun K6 hK6=>?_
     simp only [go_sem,s27,e2]
     refine hK6 _ _ ?_
     simp only [b0f]
     exact ⟨k - 1,by omega,by simp only [go_sem,s25],by simp only [go_sem,s26],i+1,by omega,by omega,by simp only [go_sem],by simp only [go_sem]⟩
    ·have hge:sl.length<=i:=by have:=of_decide_eq_false hb; omega
     have hie:i=sl.length:=by omega
     subst hie
     simp only [b09,b1b,b1a,c0s,b02,b0f,Nat.reduceEqDiff,not_false_eq_true]
     refine hK _ _ (b0b fun K hK=>?_)
     simp only [go_sem,s6]
     refine hK _ _ ?_
     simp only [b0x,b0y]
     exact b04 (by simp only [go_sem]) (b0e _)
end Go.Nw.UM
namespace Go.Nw.UM
open Go.Nw.Tp2
set_option maxHeartbeats 4000000
def K26 (h:Heap) (v:AV) (l:List Int):Prop:=(v=nilS/\l=[])\/∃ id rest,v = .rs id 0 (List.length l)/\h.ob id=some (1,List.map eI l++rest)/\id<h.nx
def QC (q:faults_inquiry) (kf ff:AV) (im:Nat) (v:AV):List AV:=[.fs 1 (List.map eS q.Accident.Machine.Inputs),.fs 1 (List.map eS q.Accident.Machine.Outputs),.fs 2 (List.map b0o q.Accident.Machine.Counters),.fs 2 (List.map b0p q.Accident.Machine.States),.fs 4 (List.map b0m q.Accident.Machine.Rules),.fs 1 (List.map b0t q.Accident.Assume),I q.Accident.Ticks,.fs 4 (List.map c26 q.Accident.Records),.fs 1 (List.map eS q.plant.Machine.Inputs),.fs 1 (List.map eS q.plant.Machine.Outputs),.fs 2 (List.map b0o q.plant.Machine.Counters),.fs 2 (List.map b0p q.plant.Machine.States),.fs 4 (List.map b0m q.plant.Machine.Rules),I q.theory.Input,I q.theory.Value,I q.theory.From,kf,ff,.mp im,v]
structure IQ (h:Heap) (iq im:Nat) (v:AV) (q:faults_inquiry) (kf ff:AV) (dead:b54) (ins:List Int):Prop where
 q : h.ob iq=some (20,[QC q kf ff im v])
 ql : iq<h.nx
 m : h.ob im=some (0,List.map (eM (vks s8w) vB) dead)
 ml : im<h.nx
 ow : K26 h v ins
 ne : ¬ iq=im
 nq : b07 v iq
 nm : b07 v im
theorem s9q {h h':Heap} {v:AV} {l:List Int} (hv:K26 h v l) (hk:∀ j,¬ b07 v j->j<h.nx->h'.ob j=h.ob j) (hn:h.nx<=h'.nx):K26 h' v l:=by
 rcases hv with h1|⟨id,rest,rfl,h2,h3⟩
 ·exact .inl h1
 ·exact .inr ⟨id,rest,rfl,by rw [hk id (by simp [b07]) h3]; exact h2,by omega⟩
theorem IQ.later {h h':Heap} {iq im:Nat} {v:AV} {q:faults_inquiry} {kf ff:AV} {dead:b54} {ins:List Int} (H:IQ h iq im v q kf ff dead ins) (hk:∀ j,j<h.nx->h'.ob j=h.ob j) (hn:h.nx<=h'.nx):IQ h' iq im v q kf ff dead ins :=
 ⟨by rw [hk _ H.ql]; exact H.q,by have:=H.ql; omega,by rw [hk _ H.ml]; exact H.m,by have:=H.ml; omega,s9q H.ow (fun j _ hj=>hk j hj) hn,H.ne,H.nq,H.nm⟩
theorem u5g {h:Heap} {v:AV} {l:List Int} (hv:K26 h v l):b2d v=true/\cellsOf v=[v]:=by
 rcases hv with ⟨rfl,_⟩|⟨id,rest,rfl,_⟩ <;> exact ⟨rfl,rfl⟩
theorem u86 {h:Heap} {v:AV} {l:List Int} (hv:K26 h v l) {i:Nat} (hi:h.nx<=i):b07 v i:=by
 rcases hv with ⟨rfl,_⟩|⟨id,rest,rfl,_,hl⟩
 ·trivial
 ·show ¬ id=i; omega
theorem u87 {h:Heap} {v:AV} {l:List Int} {k:Int->Prop} (hv:K26 h v l):@l58 v ⟨k⟩=k (List.length l:Int):=by
 rcases hv with ⟨rfl,rfl⟩|⟨id,rest,rfl,_⟩
 ·rw [d2f]; rfl
 ·rw [d2g]
theorem u8k {h:Heap} {v:AV} {l r:List Int} {id2:Nat} {x:Int} {k:AV->Heap->Prop} (hv:K26 h v l) (hx:h.ob id2=some (1,[[I x]])) (hd:b07 v id2) (ha:ap 8 l [x]=some r)
  (hk : k (.rs h.nx 0 (List.length r)) (b5y h v (1,List.map eI r))):@b8k 1 8 v (.rs id2 0 1) h ⟨k⟩:=by
 obtain ⟨hb,rfl⟩:=r9o ha
 rw [List.length_append,List.map_append] at hk
 refine ⟨_,_,?_,hk⟩
 simp only [eff,evT,if_true,Nat.one_ne_zero,if_false]
 have hb':(l.length+1) * 8<=2 ^ 40:=by simpa using hb
 rcases hv with ⟨rfl,rfl⟩|⟨id,rest,rfl,ho,hlt⟩
 ·simp only [hx,bS9,List.map_nil,List.nil_append,List.length_nil,List.length_cons,Nat.zero_add,c6k,Nat.one_ne_zero,if_false]
  rw [if_pos ⟨trivial,by simp,by simpa using hb'⟩]
  simp [eI]
 ·have hne:id≠id2:=hd
  simp only [ho,hx,bS9,List.length_map,z7t]
  rw [if_pos ⟨trivial,trivial,hne,by simp,by simp,hb'⟩]
  simp [List.take_of_length_le,eI]
theorem u8m {h:Heap} {v:AV} {l m:List Int} {y:Int} {k:AV->Heap->Prop} (hv:K26 h v l) (hs:sub l 0 y=some m) (hk:∀ v',K26 h v' m->(∀ j,b07 v j->b07 v' j)->k v' h):@d2q 1 v none (some (I y)) h ⟨k⟩:=by
 obtain ⟨h0,h1,h2,rfl⟩:=p9y hs
 have hy:y.toNat<=l.length:=by omega
 rcases hv with ⟨rfl,rfl⟩|⟨id,rest,rfl,ho,hlt⟩
 ·have e0:y.toNat=0:=by simpa using hy
  refine ⟨_,_,?_,hk nilS (.inl ⟨rfl,by simp⟩) (fun _ h=>h)⟩
  simp only [b2x,b5d,b5i,bS9,Nat.zero_le]
  rw [if_pos ⟨h1,by omega⟩]
  simp
 ·refine ⟨_,_,?_,hk (.rs id 0 y.toNat) (.inr ⟨id,List.map eI (l.drop y.toNat)++rest,?_,?_,hlt⟩) (fun _ h=>h)⟩
  ·simp only [b2x,b5d,b5i,bS9,Nat.zero_le]
   rw [if_pos ⟨h1,hy⟩]
   simp [ho]
  ·simp; omega
  ·rw [ho,<- List.append_assoc,<- List.map_append]
   simp
theorem IQ.app {h:Heap} {iq im:Nat} {v:AV} {q:faults_inquiry} {kf ff:AV} {dead:b54} {ins l:List Int} {o:Ob} (H:IQ h iq im v q kf ff dead ins) :
  IQ ((b5y (h.new o) v (1,List.map eI l)).upd iq (some (20,[QC q kf ff im (.rs (nxs h.nx) 0 (List.length l))]))) iq im (.rs (nxs h.nx) 0 (List.length l)) q kf ff dead l:=by
 have hq:=H.ql; have hm:=H.ml
 have hn:(b5y (h.new o) v (1,List.map eI l)).nx=nxs (nxs h.nx):=g54
 refine ⟨c53 rfl,?_,?_,?_,.inr ⟨nxs h.nx,[],rfl,?_,?_⟩,H.ne,?_,?_⟩
 ·show iq<(b5y (h.new o) v (1,List.map eI l)).nx; rw [hn]; simp only [nxs]; omega
 ·rw [g3s (fun e=>H.ne e.symm),g55 H.nm (Nat.lt_of_lt_of_le hm (Nat.le_succ _)),d4e hm]; exact H.m
 ·show im<(b5y (h.new o) v (1,List.map eI l)).nx; rw [hn]; simp only [nxs]; omega
 ·rw [g3s (by simp only [nxs]; omega),g53 (by rfl),List.append_nil]
 ·show _<(b5y (h.new o) v (1,List.map eI l)).nx; rw [hn]; simp only [nxs]; omega
 ·show ¬ nxs h.nx=iq; simp only [nxs]; omega
 ·show ¬ nxs h.nx=im; simp only [nxs]; omega
theorem IQ.cut {h:Heap} {iq im:Nat} {v v':AV} {q:faults_inquiry} {kf ff:AV} {dead:b54} {ins l:List Int} (H:IQ h iq im v q kf ff dead ins) (hv:K26 h v' l) (hs:∀ j,b07 v j->b07 v' j) :
  IQ (h.upd iq (some (20,[QC q kf ff im v']))) iq im v' q kf ff dead l :=
 ⟨c53 rfl,H.ql,by rw [g3s (fun e=>H.ne e.symm)]; exact H.m,H.ml,s9q hv (fun j hj _=>g3s (fun e=>hj (by subst e; exact hs _ H.nq))) (Nat.le_refl _),H.ne,hs _ H.nq,hs _ H.nm⟩
theorem IQ.put {h:Heap} {iq im:Nat} {v:AV} {q:faults_inquiry} {kf ff:AV} {dead dead':b54} {ins:List Int} (H:IQ h iq im v q kf ff dead ins) :
  IQ (h.upd im (some (0,List.map (eM (vks s8w) vB) dead'))) iq im v q kf ff dead' ins :=
 ⟨by rw [g3s H.ne]; exact H.q,H.ql,c53 rfl,H.ml,s9q H.ow (fun j hj _=>g3s (fun e=>hj (by subst e; exact H.nm))) (Nat.le_refl _),H.ne,H.nq,H.nm⟩
variable {O:Orac} [MapsOk O]
def u0b (iq im:Nat) (q:faults_inquiry) (kf ff:AV) (r:Bool × b54 × List Int) (w:AV) (h:Heap):Prop:=w=B r.1/\∃ v',IQ h iq im v' q kf ff r.2.1 r.2.2
def K86 (O:Orac) (k:Nat):Prop:=∀ (q:faults_inquiry) (keep_n:String) (keep_a keep_b:List AV) (keep:Kp) (keep_z:Frz (.fn keep_n keep_a keep_b)) (keep_h:∀ z0 y,keep z0=some y->Fn O keep_n (keep_a++[I z0]++keep_b) (B y))
 (fits_n : String) (fits_a fits_b:List AV) (fits:Ft) (fits_z:Frz (.fn fits_n fits_a fits_b)) (fits_h:∀ z0 z1 z2 y,fits z0 z1 z2=some y->Fn O fits_n (fits_a++[I z0,.agg [I z1.State,I z1.Values.1,I z1.Values.2],I z2]++fits_b) (B y))
 (m : faults_moment) (dead:b54) (ins:List Int) (iq im:Nat) (v:AV) (h0:Heap) (H:IQ h0 iq im v q (.fn keep_n keep_a keep_b) (.fn fits_n fits_a fits_b) dead ins) (r:Bool × b54 × List Int) (hm0:s57 q keep fits k m dead ins=some r),
 b6e O "(*newel/faults.inquiry).course" [.rp iq 0 0,.agg [I m.tick,I m.place.State,I m.place.Values.1,I m.place.Values.2,I m.done]] h0 (u0b iq im q (.fn keep_n keep_a keep_b) (.fn fits_n fits_a fits_b) r)
theorem u48 (hf:Has O "(*newel/faults.inquiry).course" x___faults_inquiry__course) (kA:c9y O) (kAl:c9z O) (kS:c92 O) (kh:u1g O) (ks:u1h O):∀ k,K86 O k
 | 0=>by intro q _ _ _ keep _ _ _ _ _ fits _ _ m dead ins iq im v h0 H r hm0; cases hm0
 | k+1=>by
  have ih:=u48 hf kA kAl kS kh ks k
  intro q keep_n keep_a keep_b keep keep_z keep_h fits_n fits_a fits_b fits fits_z fits_h m dead ins iq im v h0 H r hm0
  unfold s57 at hm0
  refine d8g hf rfl ?_
  obtain ⟨hq,hql,hmm,hml,hv,hne,hnq,hnm⟩:=H
  have hqs:=hq
  simp only [QC] at hqs
  refine b1c (fun t h=>t 0 = .rp iq 0 0/\t 1 = .agg [I m.tick,I m.place.State,I m.place.Values.1,I m.place.Values.2,I m.done]/\h=h0) ⟨rfl,rfl,rfl⟩ fun t h ⟨s0,s1,hh⟩=>?_
  subst hh
  simp only [x___faults_inquiry__course]
  refine b0b fun K hK=>?_
  simp only [go_sem,s1]
  refine hK _ _ ?_
  clear hK K
  refine b0v ?_
  refine b0b fun K hK=>?_
  simp only [go_sem,s0,hqs]
  refine hK _ _ ?_
  clear hK K
  refine b0i fun K hK=>?_
  simp only [go_sem]
  refine b0k (fun hc=>?_) (fun hc=>?_)
  ·rw [b0r hc] at hm0
   obtain rfl:=Option.some.inj hm0
   refine b0b fun K hK=>?_
   simp only [go_sem]
   refine hK _ _ ?_
   clear hK K
   simp only [b0x,b1p,b2e,b0y]
   exact y65 (Post:=u0b iq im q (.fn keep_n keep_a keep_b) (.fn fits_n fits_a fits_b) (true,dead,ins)) (v:=B true) (by simp only [go_sem]) ⟨rfl,v,hq,hql,hmm,hml,hv,hne,hnq,hnm⟩
  rw [b0q hc] at hm0
  simp only [b0s,b0f]
  refine hK _ _ ?_
  clear hK K
  refine b0v ?_
  refine b0b fun K hK=>?_
  simp only [go_sem,s0,hqs]
  refine g0c (O:=O) (fk:=vks s8w) (fv:=vB) (l:=dead) (x:=m) (z:=false) u8y u49 ?_ ?_ ?_
  ·rfl
  ·exact hmm
  simp only [go_sem]
  refine hK _ _ ?_
  clear hK K
  refine b0i fun K hK=>?_
  simp only [go_sem]
  refine b0k (fun hc1=>?_) (fun hc1=>?_)
  ·rw [b0r hc1] at hm0
   obtain rfl:=Option.some.inj hm0
   refine b0b fun K hK=>?_
   simp only [go_sem]
   refine hK _ _ ?_
   clear hK K
   simp only [b0x,b1p,b2e,b0y]
   exact y65 (Post:=u0b iq im q (.fn keep_n keep_a keep_b) (.fn fits_n fits_a fits_b) (false,dead,ins)) (v:=B false) (by simp only [go_sem]) ⟨rfl,v,hq,hql,hmm,hml,hv,hne,hnq,hnm⟩
  rw [b0q hc1] at hm0
  simp only [b0s,b0f]
  refine hK _ _ ?_
  clear hK K
  obtain ⟨n,hn,hm0⟩:=b0g hm0
  refine b0v ?_
  refine b0b fun K hK=>?_
  simp only [go_sem,s0,hqs]
  refine b01 (kA q.plant _ hn) ?_
  simp only [go_sem]
  refine hK _ _ ?_
  clear hK K
  refine b0i fun K1 hK1=>?_
  obtain ⟨b,hl,hm0⟩:=b0g hm0
  simp only [b0u]
  refine b1j hl (fun|(dead,ins,x),t,h=>∃ v',t 0 = .rp iq 0 0/\t 3 = .fp [I m.tick,I m.place.State,I m.place.Values.1,I m.place.Values.2,I m.done] 0/\t 26=I n/\t 27=I x/\IQ h iq im v' q (.fn keep_n keep_a keep_b) (.fn fits_n fits_a fits_b) dead ins) ?_ ?_
  ·exact ⟨v,by simp only [go_sem,s0],by simp only [go_sem],by simp only [go_sem],by simp only [go_sem],hq,hql,hmm,hml,hv,hne,hnq,hnm⟩
  clear hv hnq hnm hq hqs hmm hml hql
  rintro ⟨dead1,ins1,x⟩ o t h ⟨v1,s0,s3,s26,s27,H⟩ hm1 hb
  simp only [u0f] at hm1
  rw [u5o]
  refine b0b fun K hK=>?_
  simp only [go_sem,s26,s27]
  refine hK _ _ ?_
  clear hK K
  refine b0i fun K2 hK2=>?_
  simp only [go_sem]
  refine b0k (fun hc2=>?_) (fun hc2=>?_)
  ·rw [b0r hc2] at hm1
   simp only [b0s,b02,b0f]
   refine hK2 _ _ ?_
   refine b0i fun K3 hK3=>?_
   have J:∀ (d:b54) (l:List Int) (v':AV) (t:Slots) (h:Heap),t 0 = .rp iq 0 0->t 3 = .fp [I m.tick,I m.place.State,I m.place.Values.1,I m.place.Values.2,I m.done] 0->t 26=I n->t 27=I x->IQ h iq im v' q (.fn keep_n keep_a keep_b) (.fn fits_n fits_a fits_b) d l->o = .nx (d,l,wr (x+1))->K3 t h:=by
    intro d l v' t h s0 s3 s26 s27 H ho
    refine hK3 _ _ ?_
    refine b03 fun K hK=>?_
    simp only [go_sem,s27]
    refine hK _ _ ?_
    clear hK K
    simp only [b02,b0f]
    exact ⟨_,ho,v',by simp only [go_sem,s0],by simp only [go_sem,s3],by simp only [go_sem,s26],by simp only [go_sem],H⟩
   simp only [b0u]
   refine b0b fun K hK=>?_
   simp only [go_sem,s27]
   refine hK _ _ ?_
   clear hK K
   obtain ⟨y1,hy1,hm1⟩:=b0g hm1
   obtain ⟨c,hcc,hm1⟩:=b0g hm1
   refine b0v ?_
   refine b2p (fun t h=>t 0 = .rp iq 0 0/\t 3 = .fp [I m.tick,I m.place.State,I m.place.Values.1,I m.place.Values.2,I m.done] 0/\t 5=I x/\t 26=I n/\t 27=I x/\IQ h iq im v1 q (.fn keep_n keep_a keep_b) (.fn fits_n fits_a fits_b) dead1 ins1/\t 56=B c) (fun K hK=>?_) ?_
   ·have hqs:=H.q
    simp only [QC] at hqs
    simp only [go_sem,s0,s3,hqs]
    refine b01 (kAl q.plant q.Accident.Assume m.place x _ hy1) ?_
    simp only [go_sem,s0,s3,hqs]
    refine b0k (fun hg=>?_) (fun hg=>?_)
    ·simp only [hg,if_true] at hcc
     obtain rfl:=Option.some.inj hcc
     simp only [go_sem,hg]
     exact hK _ _ ⟨by simp only [go_sem,s0],by simp only [go_sem,s3],by simp only [go_sem],by simp only [go_sem,s26],by simp only [go_sem,s27],H,by simp only [go_sem]⟩
    ·simp only [hg,fT9,if_false] at hcc
     obtain ⟨y2,hy2,hcc⟩:=b0g hcc
     obtain rfl:=Option.some.inj hcc
     simp only [go_sem,s0,s3,hqs,hg]
     refine o5t (fits_h m.tick m.place x _ hy2) ?_
     simp only [go_sem,hg]
     exact hK _ _ ⟨by simp only [go_sem,s0],by simp only [go_sem,s3],by simp only [go_sem],by simp only [go_sem,s26],by simp only [go_sem,s27],H,by simp only [go_sem]⟩
   clear s0 s3 s26 s27 H
   rintro t h ⟨s0,s3,s5,s26,s27,H,s56⟩
   refine b0i fun K4 hK4=>?_
   simp only [go_sem,s56]
   refine b0k (fun hc3=>?_) (fun hc3=>?_)
   ·rw [b0r hc3] at hm1
    simp only [b09,b1b,b1a,c0s,b02,b0f,Nat.reduceEqDiff,not_false_eq_true]
    exact J _ _ _ _ _ s0 s3 s26 s27 H (Option.some.inj hm1).symm
   rw [b0q hc3] at hm1
   simp only [b0s,b02,b0f]
   refine hK4 _ _ ?_
   clear hK4 K4
   obtain ⟨s,hs,hm1⟩:=b0g hm1
   refine b2p (fun t h=>t 0 = .rp iq 0 0/\t 3 = .fp [I m.tick,I m.place.State,I m.place.Values.1,I m.place.Values.2,I m.done] 0/\t 5=I x/\t 6=I s.1/\t 7=B s.2/\t 26=I n/\t 27=I x/\IQ h iq im v1 q (.fn keep_n keep_a keep_b) (.fn fits_n fits_a fits_b) dead1 ins1) (fun K hK=>?_) ?_
   ·simp only [go_sem,s0,s3,s5]
    have hqs:=H.q
    simp only [QC] at hqs
    refine d9m (ks q iq (.mp im) v1 m x keep_n keep_a keep_b keep keep_z keep_h fits_n fits_a fits_b fits fits_z fits_h _ hqs H.ql _ hs) ?_
    rintro _ h' ⟨rfl,fr,fx⟩
    simp only [go_sem]
    exact hK _ _ ⟨by simp only [go_sem,s0],by simp only [go_sem,s3],by simp only [go_sem,s5],by simp only [go_sem],by simp only [go_sem],by simp only [go_sem,s26],by simp only [go_sem,s27],H.later fr fx⟩
   clear s0 s3 s5 s26 s27 H s56
   rintro t h ⟨s0,s3,s5,s6,s7,s26,s27,H⟩
   refine b0v ?_
   refine b0b fun K hK=>?_
   simp only [go_sem,s7]
   refine hK _ _ ?_
   clear hK K
   refine b0i fun K4 hK4=>?_
   simp only [go_sem]
   refine b0k (fun hc4=>?_) (fun hc4=>?_)
   ·rw [b0r hc4] at hm1
    simp only [b09,b1b,b1a,c0s,b02,b0f,Nat.reduceEqDiff,not_false_eq_true]
    exact J _ _ _ _ _ (by simp only [go_sem,s0]) (by simp only [go_sem,s3]) (by simp only [go_sem,s26]) (by simp only [go_sem,s27]) H (Option.some.inj hm1).symm
   rw [b0q hc4] at hm1
   simp only [b0s,b02,b0f]
   refine hK4 _ _ ?_
   clear hK4 K4
   obtain ⟨l,hl1,hm1⟩:=b0g hm1
   refine b2p (fun t h=>∃ v2,t 0 = .rp iq 0 0/\t 3 = .fp [I m.tick,I m.place.State,I m.place.Values.1,I m.place.Values.2,I m.done] 0/\t 5=I x/\t 6=I s.1/\t 26=I n/\t 27=I x/\IQ h iq im v2 q (.fn keep_n keep_a keep_b) (.fn fits_n fits_a fits_b) dead1 l) (fun K hK=>?_) ?_
   ·have hql:=H.ql
    have hv:=H.ow
    have hnq:=H.nq
    have hqs:=H.q
    simp only [QC] at hqs
    simp only [go_sem,s0,s5,hqs,hql]
    have hd:b07 v1 h.nx:=u86 hv (Nat.le_refl _)
    refine u8k (x:=x) (s9q hv (fun j hj hl=>by simp only [go_sem,hl]) (by simp only [go_sem,nxs]; omega)) (by simp only [go_sem,eI]) hd hl1 ?_
    simp only [go_sem,hqs,hql,hnq]
    exact hK _ _ ⟨_,by simp only [go_sem,s0],by simp only [go_sem,s3],by simp only [go_sem,s5],by simp only [go_sem,s6],by simp only [go_sem,s26],by simp only [go_sem,s27],H.app⟩
   clear s0 s3 s5 s6 s7 s26 s27 H
   rintro t h ⟨v2,s0,s3,s5,s6,s26,s27,H⟩
   obtain ⟨y,hy,hm1⟩:=b0g hm1
   obtain ⟨p,hp,hm1⟩:=b0g hm1
   obtain ⟨rr,hrr,hm1⟩:=b0g hm1
   refine b0v ?_
   refine u7g (n:=14) [80,81,82] (fun t h=>∃ v2,t 0 = .rp iq 0 0/\t 3 = .fp [I m.tick,I m.place.State,I m.place.Values.1,I m.place.Values.2,I m.done] 0/\t 26=I n/\t 27=I x/\t 94=B rr.1/\IQ h iq im v2 q (.fn keep_n keep_a keep_b) (.fn fits_n fits_a fits_b) rr.2.1 rr.2.2) (by decide) (by decide) (fun K hK=>?_) ?_
   ·have hqs:=H.q
    simp only [QC] at hqs
    simp only [go_sem,s0,s3,s5,s6,hqs]
    refine d9m (kh q iq (.mp im) v2 m.tick x keep_n keep_a keep_b keep keep_z keep_h fits_n fits_a fits_b fits fits_z fits_h _ hqs H.ql _ hy) ?_
    rintro _ h' ⟨rfl,fr,fx⟩
    simp only [go_sem]
    refine ⟨fun s hs id hid=>?_,?_⟩
    ·simp only [List.mem_cons,List.not_mem_nil,or_false] at hs
     have : id=iq:=by
      rcases hs with rfl|rfl|rfl <;> simp only [go_sem,s0,E65,iE9] at hid <;> exact hid.symm
     subst this; exact fr _ H.ql
    refine b01 (kS q.plant m.place y _ hp) ?_
    simp only [go_sem,s6]
    refine d9m (ih q keep_n keep_a keep_b keep keep_z keep_h fits_n fits_a fits_b fits fits_z fits_h ⟨wr (m.tick+1),p,s.1⟩ dead1 l iq im v2 h' (H.later fr fx) rr hrr) ?_
    rintro _ h2 ⟨rfl,v3,H3⟩
    simp only [go_sem]
    exact hK _ _ ⟨v3,by simp only [go_sem,s0],by simp only [go_sem,s3],by simp only [go_sem,s26],by simp only [go_sem,s27],by simp only [go_sem],H3⟩
   clear s0 s3 s5 s6 s26 s27 H
   rintro t h ⟨v3,s0,s3,s26,s27,s94,H⟩
   refine b0i fun K4 hK4=>?_
   simp only [go_sem,s94]
   refine b0k (fun hc5=>?_) (fun hc5=>?_)
   ·rw [b0r hc5] at hm1
    obtain rfl:=Option.some.inj hm1
    obtain rfl:=hb _ rfl
    obtain rfl:=Option.some.inj hm0
    refine b0b fun K hK=>?_
    simp only [go_sem]
    refine hK _ _ ?_
    clear hK K
    simp only [b0x,b1p,b2e,b0y]
    exact y65 (Post:=u0b iq im q (.fn keep_n keep_a keep_b) (.fn fits_n fits_a fits_b) (true,rr.2.1,rr.2.2)) (v:=B true) (by simp only [go_sem]) ⟨rfl,v3,H⟩
   rw [b0q hc5] at hm1
   simp only [b0s,b02,b0f]
   refine hK4 _ _ ?_
   clear hK4 K4
   obtain ⟨l2,hl2,hm1⟩:=b0g hm1
   refine b9y (fun t h=>∃ v4,t 0 = .rp iq 0 0/\t 3 = .fp [I m.tick,I m.place.State,I m.place.Values.1,I m.place.Values.2,I m.done] 0/\t 26=I n/\t 27=I x/\IQ h iq im v4 q (.fn keep_n keep_a keep_b) (.fn fits_n fits_a fits_b) rr.2.1 l2) (fun K hK=>?_) ?_
   ·have hql:=H.ql
    have hv:=H.ow
    have hqs:=H.q
    simp only [QC] at hqs
    simp only [go_sem,s0,hqs,hql,u87 hv]
    refine u8m hv hl2 ?_
    intro v' hv' hsub
    simp only [go_sem,hqs,hql,(u5g hv').1,(u5g hv').2]
    exact hK _ _ ⟨v',by simp only [go_sem,s0],by simp only [go_sem,s3],by simp only [go_sem,s26],by simp only [go_sem,s27],H.cut hv' hsub⟩
   rintro t h ⟨v4,s0,s3,s26,s27,H⟩
   simp only [b02,b0f]
   exact J _ _ _ _ _ s0 s3 s26 s27 H (Option.some.inj hm1).symm
  ·rw [b0q hc2] at hm1
   obtain rfl:=Option.some.inj hm1
   obtain rfl:=hb _ rfl
   obtain rfl:=Option.some.inj hm0
   simp only [b09,b1b,b1a,c0s,b02,b0f,Nat.reduceEqDiff,not_false_eq_true]
   refine hK1 _ _ ?_
   have hqs:=H.q
   simp only [QC] at hqs
   refine b0b fun K hK=>?_
   simp only [go_sem,s0,s3,hqs]
   refine d2i (O:=O) (fk:=vks s8w) (fv:=vB) (l:=dead1) (x:=m) (v:=true) g1t u49 ?_ ?_ ?_
   ·rfl
   ·exact H.m
   simp only [go_sem]
   refine hK _ _ ?_
   clear hK K
   refine b0b fun K hK=>?_
   simp only [go_sem]
   refine hK _ _ ?_
   clear hK K
   simp only [b0x,b1p,b2e,b0y]
   exact y65 (Post:=u0b iq im q (.fn keep_n keep_a keep_b) (.fn fits_n fits_a fits_b) (false,b3w dead1 m true,ins1)) (v:=B false) (by simp only [go_sem]) ⟨rfl,v1,H.put⟩
end Go.Nw.UM
namespace Go.Nw.UM
open Go.Nw.Tp2
noncomputable def b6a (x:Int) (input:Int) (value:Int):Option Int :=
 if decide (input<0) then
  some x
 else
  (shl .i64 1 (IntKind.wrap .u64 input)).bind fun q4 =>
  if decide (value=1) then
   some (bor x q4)
  else
   some (g6a x q4)
noncomputable def c8i (p:Place):Option Place :=
 some (Place.mk p.State (p.Values.1,p.Values.2))
noncomputable def c8j (i_7:Int):Option (Out Int (Unit ⊕ Place)) :=
 some (.nx (wr (i_7+1)))
noncomputable def c8h (x9:Rule) (q_9_1:Int) (q_9_2:Int):Option (Out Int (Unit ⊕ Place)) :=
 some (.br (.inr (Place.mk x9.To (q_9_1,q_9_2))))
noncomputable def b8x (k_10:Int) (q_9_1_1:Int) (q_9_2_1:Int):Option (Out (Int × Int × Int) ((Int × Int))) :=
 some (.nx (q_9_1_1,q_9_2_1,wr (k_10+1)))
noncomputable def c4f (m:Machine) (x9:Rule):(Int × Int × Int)->Option (Out (Int × Int × Int) ((Int × Int)))
 | (q_9_1,q_9_2,k_10) =>
  if decide (k_10<(List.length x9.Sets:Int)) then
   (get x9.Sets k_10).bind fun x26 =>
   if decide (x26.Kind=1) then
    (get [q_9_1,q_9_2] x26.Counter).bind fun x29 =>
    b8x k_10 (b1n x26.Counter 0 0 q_9_1) (b1n x26.Counter 1 0 q_9_2)
   else
    if decide (x26.Kind=2) then
     (get [q_9_1,q_9_2] x26.Counter).bind fun x33 =>
     (get m.Counters x26.Counter).bind fun x34 =>
     b8x k_10 (b1n x26.Counter 0 (mn (wr (x33+1)) x34.Max) q_9_1) (b1n x26.Counter 1 (mn (wr (x33+1)) x34.Max) q_9_2)
    else
     if decide (x26.Kind=3) then
      (get [q_9_1,q_9_2] x26.Counter).bind fun x37 =>
      b8x k_10 (b1n x26.Counter 0 (mx (wr (x37 - 1)) 0) q_9_1) (b1n x26.Counter 1 (mx (wr (x37 - 1)) 0) q_9_2)
     else
      b8x k_10 q_9_1 q_9_2
  else
   some (.br (q_9_1,q_9_2))
noncomputable def c8g (m:Machine) (p:Place) (input:Int):Int->Option (Out Int (Unit ⊕ Place))
 | i_7 =>
  if decide (i_7<(List.length m.Rules:Int)) then
   (get m.Rules i_7).bind fun x9 =>
   (if (decide (0<=x9.From)) && (decide (¬x9.From=p.State)) then some true else (b7o m p input x9.When).bind fun y12 =>
   some (!y12)).bind fun c13 =>
   if c13 then
    c8j i_7
   else
    (b0w (c4f m x9) (p.Values.1,p.Values.2,0)).bind fun
     | (q_9_1,q_9_2)=>c8h x9 q_9_1 q_9_2
  else
   some (.br (.inl ()))
noncomputable def c0w (m:Machine) (p:Place) (input:Int):Option Place :=
 (b0w (c8g m p input) (0)).bind fun
  | (.inl ())=>c8i p
  | (.inr r')=>some r'
@[go_sem ↓ high,go_sem high] theorem o5d {k:AV->Prop} (a b:Place):@b2g .eql (.flat [.i,.i,.i]) (.agg [I a.State,I a.Values.1,I a.Values.2]) (.agg [I b.State,I b.Values.1,I b.Values.2]) ⟨k⟩=k (B (decide (a=b))):=d8r rfl rfl (b3u (b3u (b3u c61))) (by
 obtain ⟨a1,⟨a2,a3⟩⟩:=a; obtain ⟨b4,⟨b5,b6⟩⟩:=b
 rw [Bool.eq_iff_iff]; simp only [Bool.and_eq_true,decide_eq_true_eq,and_true]
 constructor
 ·rintro ⟨rfl,rfl,rfl⟩; rfl
 ·intro h; cases h; exact ⟨rfl,rfl,rfl⟩)
@[go_sem ↓ high,go_sem high] theorem o5f {k:AV->Prop} (a b:Place):@b2g .neq (.flat [.i,.i,.i]) (.agg [I a.State,I a.Values.1,I a.Values.2]) (.agg [I b.State,I b.Values.1,I b.Values.2]) ⟨k⟩=k (B (!(decide (a=b)))):=d80 rfl rfl (b3u (b3u (b3u c61))) (by
 obtain ⟨a1,⟨a2,a3⟩⟩:=a; obtain ⟨b4,⟨b5,b6⟩⟩:=b
 rw [Bool.eq_iff_iff]; simp only [Bool.and_eq_true,decide_eq_true_eq,and_true]
 constructor
 ·rintro ⟨rfl,rfl,rfl⟩; rfl
 ·intro h; cases h; exact ⟨rfl,rfl,rfl⟩)
structure r04_graph where
 places : List Place
 back : List Int
 input : List Int
 deriving Inhabited,DecidableEq
structure l04_Conds where
 Assume : List (List Literal)
 Never : List (List Literal)
 deriving Inhabited,DecidableEq
structure l04_Pinned where
 Run : List Int
 Input : Int
 Value : Int
 deriving Inhabited,DecidableEq
structure r04_pair where
 a : Place
 b : Place
 deriving Inhabited,DecidableEq
@[go_sem] def d7t (x:r04_pair):List AV:=[I x.a.State,I x.a.Values.1,I x.a.Values.2,I x.b.State,I x.b.Values.1,I x.b.Values.2]
@[go_sem] theorem o5s {l:List r04_pair} {n:Nat} {a0:Int} {a1:Int} {a2:Int} {a3:Int} {a4:Int} {a5:Int}:(List.map d7t l).set n [I a0,I a1,I a2,I a3,I a4,I a5]=List.map d7t (l.set n (r04_pair.mk (Place.mk a0 (a1,a2)) (Place.mk a3 (a4,a5)))):=by rw [List.map_set]; rfl
@[go_sem ↓ high,go_sem high] theorem o5e {k:AV->Prop} (a b:r04_pair):@b2g .eql (.flat [.i,.i,.i,.i,.i,.i]) (.agg [I a.a.State,I a.a.Values.1,I a.a.Values.2,I a.b.State,I a.b.Values.1,I a.b.Values.2]) (.agg [I b.a.State,I b.a.Values.1,I b.a.Values.2,I b.b.State,I b.b.Values.1,I b.b.Values.2]) ⟨k⟩=k (B (decide (a=b))):=d8r rfl rfl (b3u (b3u (b3u (b3u (b3u (b3u c61)))))) (by
 obtain ⟨⟨a1,⟨a2,a3⟩⟩,⟨a4,⟨a5,a6⟩⟩⟩:=a; obtain ⟨⟨b7,⟨b8,b9⟩⟩,⟨b10,⟨b11,b12⟩⟩⟩:=b
 rw [Bool.eq_iff_iff]; simp only [Bool.and_eq_true,decide_eq_true_eq,and_true]
 constructor
 ·rintro ⟨rfl,rfl,rfl,rfl,rfl,rfl⟩; rfl
 ·intro h; cases h; exact ⟨rfl,rfl,rfl,rfl,rfl,rfl⟩)
@[go_sem ↓ high,go_sem high] theorem o5g {k:AV->Prop} (a b:r04_pair):@b2g .neq (.flat [.i,.i,.i,.i,.i,.i]) (.agg [I a.a.State,I a.a.Values.1,I a.a.Values.2,I a.b.State,I a.b.Values.1,I a.b.Values.2]) (.agg [I b.a.State,I b.a.Values.1,I b.a.Values.2,I b.b.State,I b.b.Values.1,I b.b.Values.2]) ⟨k⟩=k (B (!(decide (a=b)))):=d80 rfl rfl (b3u (b3u (b3u (b3u (b3u (b3u c61)))))) (by
 obtain ⟨⟨a1,⟨a2,a3⟩⟩,⟨a4,⟨a5,a6⟩⟩⟩:=a; obtain ⟨⟨b7,⟨b8,b9⟩⟩,⟨b10,⟨b11,b12⟩⟩⟩:=b
 rw [Bool.eq_iff_iff]; simp only [Bool.and_eq_true,decide_eq_true_eq,and_true]
 constructor
 ·rintro ⟨rfl,rfl,rfl,rfl,rfl,rfl⟩; rfl
 ·intro h; cases h; exact ⟨rfl,rfl,rfl,rfl,rfl,rfl⟩)
structure l04_Claim where
 Run : List Int
 Places : List Place
 deriving Inhabited,DecidableEq
end Go.Nw.UM
namespace Go.Nw.UM
open Go.Nw.Tp2
noncomputable def u2d (out_3:List Int):Option (List Int) :=
 some out_3
noncomputable def u1b (a:Accident):((List Int) × Int)->Option (Out ((List Int) × Int) (((List Int))))
 | (out_3,i_4) =>
  if decide (i_4<(List.length a.Records:Int)) then
   (ap 8 out_3 ([i_4])).bind fun l8 =>
   some (.nx (l8,wr (i_4+1)))
  else
   some (.br out_3)
noncomputable def s8s (a:Accident):Option (List Int) :=
 (b0w (u1b a) ([],0)).bind fun out_3 =>
 u2d out_3
noncomputable def s86 (t_:Theory) (tick:Int) (x:Int):Option Int :=
 if (decide (t_.Input<0)) || (decide (tick<t_.From)) then
  some x
 else
  (b6a x t_.Input t_.Value).bind fun y5 =>
  some y5
structure r10_knot where
 place : Place
 done : Int
 deriving Inhabited,DecidableEq
noncomputable def u2e (a:Accident) (t_:Theory) (tick:Int) (k:r10_knot) (x:Int) (k_10_3:Int):Option (r10_knot × Bool) :=
 (s86 t_ tick x).bind fun y9 =>
 (c0w a.Machine (Place.mk k.place.State (k.place.Values.1,k.place.Values.2)) y9).bind fun y10 =>
 some ((r10_knot.mk (Place.mk y10.State (y10.Values.1,y10.Values.2)) k_10_3),true)
noncomputable def s8z (i_14:Int) (k_10_3_1:Int):Option (Out (Int × Int) (Int ⊕ ((r10_knot × Bool)))) :=
 some (.nx (k_10_3_1,wr (i_14+1)))
noncomputable def s92 (a:Accident) (l:List Int) (tick:Int) (k:r10_knot) (x:Int):(Int × Int)->Option (Out (Int × Int) (Int ⊕ ((r10_knot × Bool))))
 | (k_10_3,i_14) =>
  if decide (i_14<(List.length l:Int)) then
   (get l i_14).bind fun x18 =>
   (get a.Records x18).bind fun x19 =>
   if (decide (tick<x19.From)) || (decide (x19.To<tick)) then
    s8z i_14 k_10_3
   else
    (b7o a.Machine (Place.mk k.place.State (k.place.Values.1,k.place.Values.2)) x x19.Cond).bind fun y24 =>
    if x19.All && (!y24) then
     some (.br (.inr ((r10_knot.mk (Place.mk k.place.State (k.place.Values.1,k.place.Values.2)) k_10_3),false)))
    else
     if (!x19.All) && y24 then
      (shl .i64 1 (IntKind.wrap .u64 x18)).bind fun q31 =>
      s8z i_14 (bor k_10_3 q31)
     else
      s8z i_14 k_10_3
  else
   some (.br (.inl k_10_3))
noncomputable def l97 (a:Accident) (t_:Theory) (l:List Int) (tick:Int) (k:r10_knot) (x:Int):Option (r10_knot × Bool) :=
 (c0t a.Machine (Place.mk k.place.State (k.place.Values.1,k.place.Values.2)) x a.Assume).bind fun y2 =>
 if !y2 then
  some ((r10_knot.mk (Place.mk k.place.State (k.place.Values.1,k.place.Values.2)) k.done),false)
 else
  (b0w (s92 a l tick k x) (k.done,0)).bind fun
   | (.inl k_10_3)=>u2e a t_ tick k x k_10_3
   | (.inr r')=>some r'
@[go_sem] def b42 (x:r10_knot):List AV:=[I x.place.State,I x.place.Values.1,I x.place.Values.2,I x.done]
@[go_sem] theorem w9p {l:List r10_knot} {n:Nat} {a0:Int} {a1:Int} {a2:Int} {a3:Int}:(List.map b42 l).set n [I a0,I a1,I a2,I a3]=List.map b42 (l.set n (r10_knot.mk (Place.mk a0 (a1,a2)) a3)):=by rw [List.map_set]; rfl
@[go_sem ↓ high,go_sem high] theorem w9k {k:AV->Prop} (a b:r10_knot):@b2g .eql (.flat [.i,.i,.i,.i]) (.agg [I a.place.State,I a.place.Values.1,I a.place.Values.2,I a.done]) (.agg [I b.place.State,I b.place.Values.1,I b.place.Values.2,I b.done]) ⟨k⟩=k (B (decide (a=b))):=d8r rfl rfl (b3u (b3u (b3u (b3u c61)))) (by
 obtain ⟨⟨a1,⟨a2,a3⟩⟩,a4⟩:=a; obtain ⟨⟨b5,⟨b6,b7⟩⟩,b8⟩:=b
 rw [Bool.eq_iff_iff]; simp only [Bool.and_eq_true,decide_eq_true_eq,and_true]
 constructor
 ·rintro ⟨rfl,rfl,rfl,rfl⟩; rfl
 ·intro h; cases h; exact ⟨rfl,rfl,rfl,rfl⟩)
@[go_sem ↓ high,go_sem high] theorem w9l {k:AV->Prop} (a b:r10_knot):@b2g .neq (.flat [.i,.i,.i,.i]) (.agg [I a.place.State,I a.place.Values.1,I a.place.Values.2,I a.done]) (.agg [I b.place.State,I b.place.Values.1,I b.place.Values.2,I b.done]) ⟨k⟩=k (B (!(decide (a=b)))):=d80 rfl rfl (b3u (b3u (b3u (b3u c61)))) (by
 obtain ⟨⟨a1,⟨a2,a3⟩⟩,a4⟩:=a; obtain ⟨⟨b5,⟨b6,b7⟩⟩,b8⟩:=b
 rw [Bool.eq_iff_iff]; simp only [Bool.and_eq_true,decide_eq_true_eq,and_true]
 constructor
 ·rintro ⟨rfl,rfl,rfl,rfl⟩; rfl
 ·intro h; cases h; exact ⟨rfl,rfl,rfl,rfl⟩)
noncomputable def u13:Option Int :=
 some (-1)
noncomputable def s9t (l:List r10_knot) (k:r10_knot):Int->Option (Out Int (Unit ⊕ Int))
 | i_5 =>
  if decide (i_5<(List.length l:Int)) then
   (get l i_5).bind fun x8 =>
   if decide (x8=k) then
    some (.br (.inr i_5))
   else
    some (.nx (wr (i_5+1)))
  else
   some (.br (.inl ()))
noncomputable def s8y (l:List r10_knot) (k:r10_knot):Option Int :=
 (b0w (s9t l k) (0)).bind fun
  | (.inl ())=>u13
  | (.inr r')=>some r'
@[go_sem] def s63 (x:List r10_knot):List AV:=[.fs 4 (List.map b42 x)]
@[go_sem] theorem w9m {l:List (List r10_knot)} {n:Nat} {a0:List r10_knot}:(List.map s63 l).set n [.fs 4 (List.map b42 a0)]=List.map s63 (l.set n a0):=by rw [List.map_set]; rfl
noncomputable def u34 (rows_8_1:List (List r10_knot)):Option (List (List r10_knot)) :=
 some rows_8_1
noncomputable def u15 (tick_19:Int) (rows_8_2:List (List r10_knot)):Option (Out ((List (List r10_knot)) × Int) (((List (List r10_knot))))) :=
 some (.nx (rows_8_2,wr (tick_19 - 1)))
noncomputable def u16 (rows_8_1:List (List r10_knot)) (tick_19:Int) (good_20:List r10_knot):Option (Out ((List (List r10_knot)) × Int) (((List (List r10_knot))))) :=
 (get rows_8_1 tick_19).bind fun x21 =>
 u15 tick_19 (List.set rows_8_1 (Int.toNat tick_19) good_20)
noncomputable def u08 (i_21:Int) (good_20_1:List r10_knot):Option (Out ((List r10_knot) × Int) (((List r10_knot)))) :=
 some (.nx (good_20_1,wr (i_21+1)))
noncomputable def u17 (rows_8_1:List (List r10_knot)) (tick_19:Int) (good_20:List r10_knot) (i_21:Int) (can_22:Bool):Option (Out ((List r10_knot) × Int) (((List r10_knot)))) :=
 if can_22 then
  (get rows_8_1 tick_19).bind fun x35 =>
  (get x35 i_21).bind fun x36 =>
  (ap 32 good_20 ([(r10_knot.mk (Place.mk x36.place.State (x36.place.Values.1,x36.place.Values.2)) x36.done)])).bind fun l37 =>
  u08 i_21 l37
 else
  u08 i_21 good_20
noncomputable def s90 (a:Accident) (t_:Theory) (l:List Int) (q2:Int) (rows_8_1:List (List r10_knot)) (tick_19:Int) (i_21:Int):(Bool × Int)->Option (Out (Bool × Int) Bool)
 | (can_22,x_23) =>
  if (decide (x_23<q2)) && (!can_22) then
   (get rows_8_1 tick_19).bind fun x46 =>
   (get x46 i_21).bind fun x47 =>
   (l97 a t_ l tick_19 (r10_knot.mk (Place.mk x47.place.State (x47.place.Values.1,x47.place.Values.2)) x47.done) x_23).bind fun y48 =>
   (get rows_8_1 (wr (tick_19+1))).bind fun x52 =>
   (if y48.2 then (s8y x52 (r10_knot.mk (Place.mk y48.1.place.State (y48.1.place.Values.1,y48.1.place.Values.2)) y48.1.done)).bind fun y53 =>
   some (decide (0<=y53)) else some false).bind fun c54 =>
   some (.nx (c54,wr (x_23+1)))
  else
   some (.br can_22)
noncomputable def s91 (a:Accident) (t_:Theory) (l:List Int) (q2:Int) (rows_8_1:List (List r10_knot)) (tick_19:Int):((List r10_knot) × Int)->Option (Out ((List r10_knot) × Int) (((List r10_knot))))
 | (good_20,i_21) =>
  (get rows_8_1 tick_19).bind fun x24 =>
  if decide (i_21<(List.length x24:Int)) then
   (b0w (s90 a t_ l q2 rows_8_1 tick_19 i_21) (false,0)).bind fun can_22 =>
   u17 rows_8_1 tick_19 good_20 i_21 can_22
  else
   some (.br good_20)
noncomputable def u06 (a:Accident) (t_:Theory) (l:List Int) (q2:Int):((List (List r10_knot)) × Int)->Option (Out ((List (List r10_knot)) × Int) (((List (List r10_knot)))))
 | (rows_8_1,tick_19) =>
  if decide (0<=tick_19) then
   (b0w (s91 a t_ l q2 rows_8_1 tick_19) ([],0)).bind fun good_20 =>
   u16 rows_8_1 tick_19 good_20
  else
   some (.br rows_8_1)
noncomputable def u2a (a:Accident) (t_:Theory) (l:List Int) (q2:Int) (rows_8:List (List r10_knot)) (last_17:List r10_knot):Option (List (List r10_knot)) :=
 (get rows_8 a.Ticks).bind fun x10 =>
 (b0w (u06 a t_ l q2) ((List.set rows_8 (Int.toNat a.Ticks) last_17),wr (a.Ticks - 1))).bind fun rows_8_1 =>
 u34 rows_8_1
noncomputable def u09 (i_18:Int) (last_17_1:List r10_knot):Option (Out ((List r10_knot) × Int) (((List r10_knot)))) :=
 some (.nx (last_17_1,wr (i_18+1)))
noncomputable def s9z (a:Accident) (rows_8:List (List r10_knot)) (want_15:Int):((List r10_knot) × Int)->Option (Out ((List r10_knot) × Int) (((List r10_knot))))
 | (last_17,i_18) =>
  (get rows_8 a.Ticks).bind fun x61 =>
  if decide (i_18<(List.length x61:Int)) then
   (get x61 i_18).bind fun x67 =>
   if decide (x67.done=want_15) then
    (ap 32 last_17 ([(r10_knot.mk (Place.mk x67.place.State (x67.place.Values.1,x67.place.Values.2)) x67.done)])).bind fun l70 =>
    u09 i_18 l70
   else
    u09 i_18 last_17
  else
   some (.br last_17)
noncomputable def u19 (a:Accident) (t_:Theory) (l:List Int) (q2:Int) (rows_8:List (List r10_knot)) (want_15:Int):Option (List (List r10_knot)) :=
 (b0w (s9z a rows_8 want_15) ([],0)).bind fun last_17 =>
 u2a a t_ l q2 rows_8 last_17
noncomputable def u1a (i_16:Int) (want_15_1:Int):Option (Out (Int × Int) Int) :=
 some (.nx (want_15_1,wr (i_16+1)))
noncomputable def s9y (a:Accident) (l:List Int):(Int × Int)->Option (Out (Int × Int) Int)
 | (want_15,i_16) =>
  if decide (i_16<(List.length l:Int)) then
   (get l i_16).bind fun x79 =>
   (get a.Records x79).bind fun x80 =>
   if !x80.All then
    (shl .i64 1 (IntKind.wrap .u64 x79)).bind fun q83 =>
    u1a i_16 (bor want_15 q83)
   else
    u1a i_16 want_15
  else
   some (.br want_15)
noncomputable def u18 (a:Accident) (t_:Theory) (l:List Int) (q2:Int) (rows_8:List (List r10_knot)):Option (List (List r10_knot)) :=
 (b0w (s9y a l) (0,0)).bind fun want_15 =>
 u19 a t_ l q2 rows_8 want_15
noncomputable def u2b (tick_9:Int) (rows_8_1:List (List r10_knot)):Option (Out ((List (List r10_knot)) × Int) (((List (List r10_knot))))) :=
 some (.nx (rows_8_1,wr (tick_9+1)))
noncomputable def u2c (rows_8:List (List r10_knot)) (tick_9:Int) (next_10:List r10_knot):Option (Out ((List (List r10_knot)) × Int) (((List (List r10_knot))))) :=
 (ap 24 rows_8 ([next_10])).bind fun l93 =>
 u2b tick_9 l93
noncomputable def u14 (i_11:Int) (next_10_1:List r10_knot):Option (Out ((List r10_knot) × Int) (((List r10_knot)))) :=
 some (.nx (next_10_1,wr (i_11+1)))
noncomputable def u07 (x_12:Int) (next_10_2:List r10_knot):Option (Out ((List r10_knot) × Int) (((List r10_knot)))) :=
 some (.nx (next_10_2,wr (x_12+1)))
noncomputable def s9v (a:Accident) (t_:Theory) (l:List Int) (q2:Int) (rows_8:List (List r10_knot)) (tick_9:Int) (i_11:Int):((List r10_knot) × Int)->Option (Out ((List r10_knot) × Int) (((List r10_knot))))
 | (next_10_1,x_12) =>
  if decide (x_12<q2) then
   (get rows_8 tick_9).bind fun x109 =>
   (get x109 i_11).bind fun x110 =>
   (l97 a t_ l tick_9 (r10_knot.mk (Place.mk x110.place.State (x110.place.Values.1,x110.place.Values.2)) x110.done) x_12).bind fun y111 =>
   (if y111.2 then (s8y next_10_1 (r10_knot.mk (Place.mk y111.1.place.State (y111.1.place.Values.1,y111.1.place.Values.2)) y111.1.done)).bind fun y114 =>
   some (decide (y114<0)) else some false).bind fun c115 =>
   if c115 then
    (ap 32 next_10_1 ([(r10_knot.mk (Place.mk y111.1.place.State (y111.1.place.Values.1,y111.1.place.Values.2)) y111.1.done)])).bind fun l119 =>
    u07 x_12 l119
   else
    u07 x_12 next_10_1
  else
   some (.br next_10_1)
noncomputable def s9w (a:Accident) (t_:Theory) (l:List Int) (q2:Int) (rows_8:List (List r10_knot)) (tick_9:Int):((List r10_knot) × Int)->Option (Out ((List r10_knot) × Int) (((List r10_knot))))
 | (next_10,i_11) =>
  (get rows_8 tick_9).bind fun x96 =>
  if decide (i_11<(List.length x96:Int)) then
   (b0w (s9v a t_ l q2 rows_8 tick_9 i_11) (next_10,0)).bind fun next_10_1 =>
   u14 i_11 next_10_1
  else
   some (.br next_10)
noncomputable def s9x (a:Accident) (t_:Theory) (l:List Int) (q2:Int):((List (List r10_knot)) × Int)->Option (Out ((List (List r10_knot)) × Int) (((List (List r10_knot)))))
 | (rows_8,tick_9) =>
  if decide (tick_9<a.Ticks) then
   (b0w (s9w a t_ l q2 rows_8 tick_9) ([],0)).bind fun next_10 =>
   u2c rows_8 tick_9 next_10
  else
   some (.br rows_8)
noncomputable def s9u (a:Accident) (t_:Theory) (l:List Int):Option (List (List r10_knot)) :=
 (shl .i64 1 (IntKind.wrap .u64 (List.length a.Machine.Inputs:Int))).bind fun q2 =>
 (b0w (s9x a t_ l q2) ([[(r10_knot.mk (Place.mk 0 (0,0)) 0)]],0)).bind fun rows_8 =>
 u18 a t_ l q2 rows_8
noncomputable def z12 (a:Accident) (t_:Theory) (l:List Int):Option Bool :=
 (s9u a t_ l).bind fun y3 =>
 (get y3 0).bind fun x4 =>
 some (decide (0<(List.length x4:Int)))
noncomputable def y9g (a:Accident) (t_:Theory):Option Int :=
 (s9r a).bind fun y2 =>
 if decide (¬y2=0) then
  some y2
 else
  if !(l59 a t_) then
   some 1
  else
   some 0
noncomputable def u05 (a:Accident) (t_:Theory):Option (Bool × Int) :=
 (y9g a t_).bind fun y2 =>
 if decide (¬y2=0) then
  some (false,y2)
 else
  (s8s a).bind fun y7 =>
  (z12 a t_ y7).bind fun y8 =>
  some (y8,0)
noncomputable def u33 (out_8:List Int):Option ((List Int) × Int) :=
 some (out_8,0)
noncomputable def u12 (tick_10:Int) (out_8_1:List Int) (at_9_0_1:Int) (at_9_1_1:Int) (at_9_2_1:Int) (at_9_3_1:Int):Option (Out ((List Int) × Int × Int × Int × Int × Int) (((List Int)))) :=
 some (.nx (out_8_1,at_9_0_1,at_9_1_1,at_9_2_1,at_9_3_1,wr (tick_10+1)))
noncomputable def u04 (a:Accident) (t_:Theory) (y8:List (List r10_knot)) (out_8:List Int) (at_9_0:Int) (at_9_1:Int) (at_9_2:Int) (at_9_3:Int) (tick_10:Int):Int->Option (Out Int (((List Int) × Int × Int × Int × Int)))
 | x_11 =>
  (shl .i64 1 (IntKind.wrap .u64 (List.length a.Machine.Inputs:Int))).bind fun q22 =>
  if decide (x_11<q22) then
   (s8s a).bind fun y28 =>
   (l97 a t_ y28 tick_10 (r10_knot.mk (Place.mk at_9_0 (at_9_1,at_9_2)) at_9_3) x_11).bind fun y29 =>
   (if y29.2 then (get y8 (wr (tick_10+1))).bind fun x33 =>
   (s8y x33 (r10_knot.mk (Place.mk y29.1.place.State (y29.1.place.Values.1,y29.1.place.Values.2)) y29.1.done)).bind fun y34 =>
   some (decide (0<=y34)) else some false).bind fun c35 =>
   if c35 then
    (ap 8 out_8 ([x_11])).bind fun l39 =>
    some (.br (l39,y29.1.place.State,y29.1.place.Values.1,y29.1.place.Values.2,y29.1.done))
   else
    some (.nx (wr (x_11+1)))
  else
   some (.br (out_8,at_9_0,at_9_1,at_9_2,at_9_3))
noncomputable def s85 (a:Accident) (t_:Theory) (y8:List (List r10_knot)):((List Int) × Int × Int × Int × Int × Int)->Option (Out ((List Int) × Int × Int × Int × Int × Int) (((List Int))))
 | (out_8,at_9_0,at_9_1,at_9_2,at_9_3,tick_10) =>
  if decide (tick_10<a.Ticks) then
   (b0w (u04 a t_ y8 out_8 at_9_0 at_9_1 at_9_2 at_9_3 tick_10) (0)).bind fun
    | (out_8_1,at_9_0_1,at_9_1_1,at_9_2_1,at_9_3_1)=>u12 tick_10 out_8_1 at_9_0_1 at_9_1_1 at_9_2_1 at_9_3_1
  else
   some (.br out_8)
noncomputable def s8x (a:Accident) (t_:Theory):Option ((List Int) × Int) :=
 (y9g a t_).bind fun y2 =>
 if decide (¬y2=0) then
  some ([],y2)
 else
  (s8s a).bind fun y7 =>
  (s9u a t_ y7).bind fun y8 =>
  (get y8 0).bind fun x10 =>
  if decide ((List.length x10:Int)=0) then
   some ([],3)
  else
   (b0w (s85 a t_ y8) ([],0,0,0,0,0)).bind fun out_8 =>
   u33 out_8
structure l10_Query where
 Theories : List Theory
 Cond : List (List Literal)
 Tick : Int
 deriving Inhabited,DecidableEq
structure l10_Past where
 Theory : Theory
 Inputs : List Int
 deriving Inhabited,DecidableEq
structure l10_Further where
 Record : Record
 Past : l10_Past
 Cond : List (List Literal)
 Tick : Int
 deriving Inhabited,DecidableEq
end Go.Nw.UM
namespace Go.Nw
section
variable {κ ν:Type} [DecidableEq κ]
theorem c0k:∀ {l:List (κ × ν)} {k:κ} {i:Nat},b2u l k i=none ↔ k ∉ l.map (·.1)
 | [],k,i=>by simp [b2u]
 | p :: l,k,i=>by
  simp only [b2u,List.map_cons,List.mem_cons,not_or]
  by_cases h:k=p.1
  ·simp [h]
  ·simp only [h,if_false,not_false_eq_true,true_and]; exact c0k
theorem c7w:∀ {l:List (κ × ν)} {k:κ} {i j:Nat} {v:ν},b2u l k i=some (j,v)->∃ d,j=i+d/\l[d]?=some (k,v)
 | [],k,i,j,v,h=>by simp [b2u] at h
 | p :: l,k,i,j,v,h=>by
  simp only [b2u] at h
  split at h
  ·rename_i e
   simp only [iE9,Prod.mk.injEq] at h
   exact ⟨0,by omega,by obtain ⟨_,rfl⟩:=h; subst e; rfl⟩
  ·obtain ⟨d,h1,h2⟩:=c7w h
   exact ⟨d+1,by omega,by simpa using h2⟩
theorem j78 {l:List (κ × ν)} {k:κ}:b6m l k=true ↔ k∈l.map (·.1):=by
 unfold b6m b7g
 cases h:b2u l k 0 with
 | none=>simpa using c0k.1 h
 | some p =>
  obtain ⟨d,_,h2⟩:=c7w (v:=p.2) (j:=p.1) h
  simp only [Option.map_some,Option.isSome_some,true_iff]
  exact List.mem_map.2 ⟨_,mG9 h2,rfl⟩
theorem g1w {l:List (κ × ν)} {k:κ} {v:ν} (h:k ∉ l.map (·.1)):b3w l k v=l++[(k,v)]:=by
 unfold b3w; rw [c0k.2 h]
theorem g1o {l:List (κ × ν)} {k:κ} {z:ν} (h:k ∉ l.map (·.1)):b2w l k z=z:=by
 unfold b2w b7g; rw [c0k.2 h]; rfl
theorem g1n {l:List (κ × ν)} {k:κ} {z:ν} (h:k∈l.map (·.1)):∃ (d:Nat),l[d]?=some (k,b2w l k z):=by
 unfold b2w b7g
 cases hm:b2u l k 0 with
 | none=>exact absurd h (c0k.1 hm)
 | some p =>
  obtain ⟨d,_,h2⟩:=c7w (v:=p.2) (j:=p.1) hm
  exact ⟨d,h2⟩
theorem j79 {l m:List (κ × ν)} {k:κ}:∀ {i:Nat},k ∉ l.map (·.1)->b2u (l++m) k i=b2u m k (i+l.length):=by
 induction l with
 | nil=>intro i _; simp
 | cons p l ih =>
  intro i h
  simp only [List.map_cons,List.mem_cons,not_or] at h
  simp only [List.cons_append,b2u,h.1,if_false,List.length_cons]
  rw [ih h.2]; congr 1; omega
theorem g1p:∀ {l:List (κ × ν)} {k:κ} {i d:Nat} {u v:ν},b2u l k i=some (i+d,u)->b2u (l.set d (k,v)) k i=some (i+d,v)
 | [],k,i,d,u,v,h=>by simp [b2u] at h
 | p :: l,k,i,d,u,v,h=>by
  simp only [b2u] at h
  split at h
  ·rename_i e
   simp only [iE9,Prod.mk.injEq] at h
   have : d=0:=by omega
   subst this
   simp [b2u]
  ·rename_i e
   obtain ⟨d',h1,_⟩:=c7w h
   obtain ⟨d,rfl⟩:∃ e,d=e+1:=⟨d - 1,by omega⟩
   simp only [List.set_cons_succ,b2u,e,if_false]
   have := g1p (l:=l) (k:=k) (i:=i+1) (d:=d) (u:=u) (v:=v) (by rw [h]; congr 2; omega)
   rw [this]; congr 2; omega
theorem j77 {l:List (κ × ν)} {k:κ} {v z:ν}:b2w (b3w l k v) k z=v:=by
 unfold b3w
 cases h:b2u l k 0 with
 | none =>
  simp only
  unfold b2w b7g
  rw [j79 (c0k.1 h)]
  simp [b2u]
 | some p =>
  obtain ⟨j,u⟩:=p
  simp only
  have := g1p (i:=0) (d:=j) (v:=v) (by rw [Nat.zero_add]; exact h)
  unfold b2w b7g
  rw [this]; rfl
end
end Go.Nw
