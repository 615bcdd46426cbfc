/- Plain laws on the models. -/
import Derived.Test.YtinmifhfkkjccaaDoorYM
import Derived.Test.YtinmifhfkkjccaaDoorNwMaps
import Derived.Test.YtinmifhfkkjccaaDoorNwBfs
import Derived.Test.YtinmifhfkkjccaaDoorNwPlain
set_option linter.all false
namespace Go.Nw.YM
open Go.Nw.Tp5
set_option maxHeartbeats 4000000
variable {O:Orac} [MapsOk O]
theorem c64 (n:Int):∀ a∈[AV.v (.slice none 0 0),I n],Frz a:=b0a (b0e _) (b0a (b0e _) b0j)
theorem j7a (hf:Has O "slices.Grow[[]string,string]" x_slices_Grow___string_string_) (n:Int) (h0:0<n) (h1:n * 16<=2 ^ 40) :
  O "slices.Grow[[]string,string]" [.v (.slice none 0 0),I n] (.rs 0 0 0) [(1,List.replicate n.toNat [.v (.string (ByteArray.mk #[]))])]:=by
 refine c7b hf rfl (c64 n) ?_
 refine b1c (fun t h=>t 0 = .v (.slice none 0 0)/\t 1=I n) ⟨rfl,rfl⟩ fun t h hs=>?_
 obtain ⟨s0,s1⟩:=hs
 simp only [x_slices_Grow___string_string_]
 refine b0b fun K hK=>?_
 simp only [go_sem]
 refine hK _ _ (b0v (b0b fun K hK=>?_))
 simp only [go_sem,s0,s1]
 refine hK _ _ (b0i fun K hK=>?_)
 simp only [go_sem]
 refine b0k (fun hc=>?_) (fun hc=>?_)
 ·have : n<0:=of_decide_eq_true hc
  omega
 simp only [b0s,b02,b0f]
 refine hK _ _ (b0v (b0b fun K hK=>?_))
 simp only [go_sem,s0,s1]
 refine d19 ?_
 simp only [go_sem,s0,s1]
 refine hK _ _ (b0v (b0b fun K hK=>?_))
 have e1:wr (n - wr (0 - 0))=n:=by
  rw [b3t (n:=(0:Int) - 0) (by omega) (by omega),b3t (by omega) (by omega)]; omega
 simp only [go_sem,s0,s1,e1]
 refine hK _ _ (b0i fun K hK=>?_)
 simp only [go_sem,s0,s1,e1]
 refine b0k (fun hc=>?_) (fun hc=>?_)
 ·rw [b5n]
  simp only [go_sem,s0,s1,e1]
  refine d19 ?_
  simp only [go_sem,s0,s1,e1]
  refine j6x ?_
  simp only [go_sem,s0,s1,e1]
  refine j3z h0 h1 ?_
  simp only [go_sem,s0,s1,e1]
  refine j6y (n:=1) (rows:=List.replicate n.toNat [.v (.string (ByteArray.mk #[]))]) (by simp only [go_sem]) ?_
  simp only [go_sem,s0,s1,e1,b0f]
  refine hK _ _ (b0b fun K hK=>?_)
  simp only [go_sem]
  refine hK _ _ ?_
  simp only [b0x,b0y]
  refine g9t (id:=h.nx) (by simp only [go_sem]) (by simp only [go_sem]) fun r hr=>?_
  obtain ⟨_,rfl⟩:=List.mem_replicate.1 hr
  exact ⟨rfl,fun c hc=>⟨_,List.mem_singleton.1 hc⟩⟩
 ·have : ¬ 0<n:=of_decide_eq_false hc
  omega
theorem j7b (hf:Has O "slices.Grow[[]string,string]" x_slices_Grow___string_string_) :
  O "slices.Grow[[]string,string]" [.v (.slice none 0 0),I 0] (.v (.slice none 0 0)) []:=by
 refine c7b hf rfl (c64 0) ?_
 refine b1c (fun t h=>t 0 = .v (.slice none 0 0)/\t 1=I 0) ⟨rfl,rfl⟩ fun t h hs=>?_
 obtain ⟨s0,s1⟩:=hs
 simp only [x_slices_Grow___string_string_]
 refine b0b fun K hK=>?_
 simp only [go_sem]
 refine hK _ _ (b0v (b0b fun K hK=>?_))
 simp only [go_sem,s0,s1]
 refine hK _ _ (b0i fun K hK=>?_)
 simp only [go_sem]
 refine b0k (fun hc=>?_) (fun hc=>?_)
 ·have : (0:Int)<0:=of_decide_eq_true hc
  omega
 simp only [b0s,b02,b0f]
 refine hK _ _ (b0v (b0b fun K hK=>?_))
 simp only [go_sem,s0,s1]
 refine d19 ?_
 simp only [go_sem,s0,s1]
 refine hK _ _ (b0v (b0b fun K hK=>?_))
 have e1:wr (0 - wr (0 - 0))=0:=by decide
 simp only [go_sem,s0,s1,e1]
 refine hK _ _ (b0i fun K hK=>?_)
 simp only [go_sem,s0,s1,e1]
 refine b0k (fun hc=>?_) (fun hc=>?_)
 ·have : (0:Int)<0:=of_decide_eq_true hc
  omega
 ·simp only [b0s,b02,b0f]
  refine hK _ _ (b0b fun K hK=>?_)
  simp only [go_sem,s0]
  refine hK _ _ ?_
  simp only [b0x,b0y]
  exact b04 (by simp only [go_sem]) (b0e _)
theorem d3q (hf:Has O "slices.Concat[[]string,string]" x_slices_Concat___string_string_) (hg:Has O "slices.Grow[[]string,string]" x_slices_Grow___string_string_):d0t O:=by
 intro sl r hm
 unfold c9i at hm
 split at hm
 case isFalse=>cases hm
 rename_i hc
 obtain ⟨hc1,hc2,hc3⟩:=hc
 cases hm
 refine j04 hf rfl (b0a (b0c fun a _=>c65 a) b0j) g2n ?_
 refine b1c (fun t h=>t 0 = .fs 1 (List.map b4f sl)) rfl fun t h s0=>?_
 simp only [x_slices_Concat___string_string_]
 refine b0b fun K hK=>?_
 simp only [go_sem]
 refine hK _ _ (b0b fun K hK=>?_)
 simp only [go_sem]
 refine hK _ _ (b0v (b0b fun K hK=>?_))
 simp only [go_sem,s0,List.length_map]
 refine hK _ _ (b0i fun K hK=>?_)
 simp only [b0u]
 have hle:∀ i,(sl.take i).flatten.length<=sl.flatten.length:=fun i=>by
  have := congrArg (fun l=>(List.flatten l).length) (List.take_append_drop i sl)
  simp only [List.flatten_append,List.length_append] at this
  omega
 refine c2k (fun k t h=>t 0 = .fs 1 (List.map b4f sl)/\t 9 = .fs 1 (List.map b4f sl)/\t 10=I (sl.length:Int)/\∃ i:Nat,i<=sl.length/\k=sl.length - i/\t 11=I (i:Int)/\t 3=I ((sl.take i).flatten.length:Int)) sl.length ?_ ?_
 ·exact ⟨by simp only [go_sem,s0],by simp only [go_sem,s0],by simp only [go_sem],0,by omega,by omega,by simp only [go_sem]; rfl,by simp only [go_sem]; rfl⟩
 ·rintro k t h ⟨s0,s9,s10,i,hi,hk,s11,s3⟩
  rw [d5n]
  refine b0b fun K2 hK2=>?_
  simp only [go_sem,s10,s11]
  refine hK2 _ _ (b0i fun K3 hK3=>?_)
  simp only [go_sem]
  refine b0k (fun hb=>?_) (fun hb=>?_)
  ·simp only [b0s,b0f]
   refine hK3 _ _ (b0i fun K4 hK4=>?_)
   simp only [b0u]
   have hlt:i<sl.length:=by have:=of_decide_eq_true hb; omega
   have hx:sl[i]?=some sl[i]:=gG9 hlt
   generalize sl[i]=x at hx
   have h_x:get sl (i:Int)=some x:=by unfold get; rw [if_pos (by omega)]; simpa using hx
   have hfl:=c9m hx
   have hlen:(sl.take (i+1)).flatten.length=(sl.take i).flatten.length+x.length:=by rw [hfl,List.length_append]
   have hb1:=hle (i+1)
   refine b0b fun K5 hK5=>?_
   simp only [go_sem,s9,s11,b08 h_x,b3n h_x,b05 h_x,b06 h_x]
   refine hK5 _ _ (b0b fun K5 hK5=>?_)
   have e1:wr (((sl.take i).flatten.length:Int)+(x.length:Int))=((sl.take (i+1)).flatten.length:Int):=by
    rw [b3t (by omega) (by omega)]; omega
   simp only [go_sem,s3,List.length_map,e1]
   refine hK5 _ _ (b0b fun K5 hK5=>?_)
   simp only [go_sem]
   refine hK5 _ _ ?_
   simp only [go_sem]
   refine b0k (fun hd=>?_) (fun hd=>?_)
   ·have := of_decide_eq_true hd
    omega
   simp only [b0s,b02,b0f]
   refine hK4 _ _ ?_
   rw [b5n]
   have e2:wr ((i:Int)+1)=((i+1:Nat):Int):=by rw [b3t (by omega) (by omega)]; omega
   simp only [go_sem,s11,e2,b0f]
   exact ⟨k - 1,by omega,by simp only [go_sem,s0],by simp only [go_sem,s9],by simp only [go_sem,s10],i+1,by omega,by omega,by simp only [go_sem],by simp only [go_sem]⟩
  ·have hge:sl.length<=i:=by have:=of_decide_eq_false hb; omega
   have hie:i=sl.length:=by omega
   subst hie
   simp only [b09,b1b,b1a,c0s,b02,b0f,Nat.reduceEqDiff,not_false_eq_true]
   refine hK _ _ (b0b fun K hK=>?_)
   simp only [go_sem,s3]
   rw [List.take_length]
   refine j4v (c64 _) (j7a hg _ (by omega) (by omega)) (fun r hr=>?_) ?_
   ·obtain ⟨_,rfl⟩:=List.mem_replicate.1 hr
    exact ⟨rfl,fun c hc=>⟨_,List.mem_singleton.1 hc⟩⟩
   simp only [go_sem]
   refine hK _ _ (b0v (b0b fun K hK=>?_))
   simp only [go_sem,s0,List.length_map]
   refine hK _ _ (b0i fun K hK=>?_)
   simp only [b0u]
   refine c2k (fun k t h=>t 25 = .fs 1 (List.map b4f sl)/\t 26=I (sl.length:Int)/\∃ (i id:Nat) (es:List (List AV)),i<=sl.length/\k=sl.length - i/\t 27=I (i:Int)/\t 6 = .rs id 0 (List.length (sl.take i).flatten)/\h.ob id=some (1,es)/\id<h.nx/\es.take (sl.take i).flatten.length=List.map eS (sl.take i).flatten/\(sl.take i).flatten.length<=es.length/\(0<i->es=List.map eS (sl.take i).flatten)) sl.length ?_ ?_
   ·exact ⟨by simp only [go_sem,s0],by simp only [go_sem],0,h.nx,List.replicate (Int.toNat (sl.flatten.length:Int)) [.v (.string (ByteArray.mk #[]))],by omega,by omega,by simp only [go_sem]; rfl,by simp only [go_sem]; rfl,by simp only [go_sem],by simp only [go_sem],by simp,by simp,fun h=>by omega⟩
   ·rintro k t h ⟨s25,s26,i,id,es,hi,hk,s27,s6,ho,hlt0,he,hel,hex⟩
    rw [d5m]
    refine b0b fun K2 hK2=>?_
    simp only [go_sem,s26,s27]
    refine hK2 _ _ (b0i fun K3 hK3=>?_)
    simp only [go_sem]
    refine b0k (fun hb=>?_) (fun hb=>?_)
    ·simp only [b0s,b0f]
     refine hK3 _ _ (b0i fun K4 hK4=>?_)
     simp only [b0u]
     have hlt:i<sl.length:=by have:=of_decide_eq_true hb; omega
     have hx:sl[i]?=some sl[i]:=gG9 hlt
     generalize sl[i]=x at hx
     have h_x:get sl (i:Int)=some x:=by unfold get; rw [if_pos (by omega)]; simpa using hx
     have hfl:=c9m hx
     have hlen:(sl.take (i+1)).flatten.length=(sl.take i).flatten.length+x.length:=by rw [hfl,List.length_append]
     have hb1:=hle (i+1)
     refine b0b fun K5 hK5=>?_
     simp only [go_sem,s25,s27,b08 h_x,b3n h_x,b05 h_x,b06 h_x]
     refine hK5 _ _ ?_
     rw [b5n]
     simp only [go_sem,s6]
     refine j3v (f:=eS) (r:=(sl.take (i+1)).flatten) ho he hel (by rw [hfl]; exact b9k (by omega)) ?_
     simp only [go_sem,b02,b0f]
     refine hK4 _ _ ?_
     rw [b5n]
     have e2:wr ((i:Int)+1)=((i+1:Nat):Int):=by rw [b3t (by omega) (by omega)]; omega
     simp only [go_sem,s27,e2,b0f]
     exact ⟨k - 1,by omega,by simp only [go_sem,s25],by simp only [go_sem,s26],i+1,h.nx,_,by omega,by omega,by simp only [go_sem],by simp only [go_sem],by simp only [go_sem],by simp only [go_sem],List.take_of_length_le (Nat.le_of_eq (List.length_map _)),Nat.le_of_eq (List.length_map _).symm,fun _=>rfl⟩
    ·have hge:sl.length<=i:=by have:=of_decide_eq_false hb; omega
     have hie:i=sl.length:=by omega
     subst hie
     simp only [b09,b1b,b1a,c0s,b02,b0f,Nat.reduceEqDiff,not_false_eq_true]
     refine hK _ _ (b0b fun K hK=>?_)
     rw [List.take_length] at s6 hex
     simp only [go_sem,s6]
     refine hK _ _ ?_
     simp only [b0x,b0y]
     have hpos:0<sl.length:=by
      cases sl with
      | nil=>simp at hc3
      | cons a l=>simp
     rw [hex hpos] at ho
     exact g9v (id:=id) (by simp only [go_sem]) (by simp only [go_sem,ho]) g2n
theorem d3r (hf:Has O "slices.Concat[[]string,string]" x_slices_Concat___string_string_) (hg:Has O "slices.Grow[[]string,string]" x_slices_Grow___string_string_):d0u O:=by
 intro sl r hm
 unfold c9j at hm
 split at hm
 case isFalse=>cases hm
 rename_i hc
 obtain ⟨hc1,hc2⟩:=hc
 cases hm
 refine b1i hf rfl (b0a (b0c fun a _=>c65 a) b0j) (b0e _) ?_
 refine b1c (fun t h=>t 0 = .fs 1 (List.map b4f sl)) rfl fun t h s0=>?_
 simp only [x_slices_Concat___string_string_]
 refine b0b fun K hK=>?_
 simp only [go_sem]
 refine hK _ _ (b0b fun K hK=>?_)
 simp only [go_sem]
 refine hK _ _ (b0v (b0b fun K hK=>?_))
 simp only [go_sem,s0,List.length_map]
 refine hK _ _ (b0i fun K hK=>?_)
 simp only [b0u]
 have hle:∀ i,(sl.take i).flatten.length<=sl.flatten.length:=fun i=>by
  have := congrArg (fun l=>(List.flatten l).length) (List.take_append_drop i sl)
  simp only [List.flatten_append,List.length_append] at this
  omega
 refine c2k (fun k t h=>t 0 = .fs 1 (List.map b4f sl)/\t 9 = .fs 1 (List.map b4f sl)/\t 10=I (sl.length:Int)/\∃ i:Nat,i<=sl.length/\k=sl.length - i/\t 11=I (i:Int)/\t 3=I ((sl.take i).flatten.length:Int)) sl.length ?_ ?_
 ·exact ⟨by simp only [go_sem,s0],by simp only [go_sem,s0],by simp only [go_sem],0,by omega,by omega,by simp only [go_sem]; rfl,by simp only [go_sem]; rfl⟩
 ·rintro k t h ⟨s0,s9,s10,i,hi,hk,s11,s3⟩
  rw [d5n]
  refine b0b fun K2 hK2=>?_
  simp only [go_sem,s10,s11]
  refine hK2 _ _ (b0i fun K3 hK3=>?_)
  simp only [go_sem]
  refine b0k (fun hb=>?_) (fun hb=>?_)
  ·simp only [b0s,b0f]
   refine hK3 _ _ (b0i fun K4 hK4=>?_)
   simp only [b0u]
   have hlt:i<sl.length:=by have:=of_decide_eq_true hb; omega
   have hx:sl[i]?=some sl[i]:=gG9 hlt
   generalize sl[i]=x at hx
   have h_x:get sl (i:Int)=some x:=by unfold get; rw [if_pos (by omega)]; simpa using hx
   have hfl:=c9m hx
   have hlen:(sl.take (i+1)).flatten.length=(sl.take i).flatten.length+x.length:=by rw [hfl,List.length_append]
   have hb1:=hle (i+1)
   refine b0b fun K5 hK5=>?_
   simp only [go_sem,s9,s11,b08 h_x,b3n h_x,b05 h_x,b06 h_x]
   refine hK5 _ _ (b0b fun K5 hK5=>?_)
   have e1:wr (((sl.take i).flatten.length:Int)+(x.length:Int))=((sl.take (i+1)).flatten.length:Int):=by
    rw [b3t (by omega) (by omega)]; omega
   simp only [go_sem,s3,List.length_map,e1]
   refine hK5 _ _ (b0b fun K5 hK5=>?_)
   simp only [go_sem]
   refine hK5 _ _ ?_
   simp only [go_sem]
   refine b0k (fun hd=>?_) (fun hd=>?_)
   ·have := of_decide_eq_true hd
    omega
   simp only [b0s,b02,b0f]
   refine hK4 _ _ ?_
   rw [b5n]
   have e2:wr ((i:Int)+1)=((i+1:Nat):Int):=by rw [b3t (by omega) (by omega)]; omega
   simp only [go_sem,s11,e2,b0f]
   exact ⟨k - 1,by omega,by simp only [go_sem,s0],by simp only [go_sem,s9],by simp only [go_sem,s10],i+1,by omega,by omega,by simp only [go_sem],by simp only [go_sem]⟩
  ·have hge:sl.length<=i:=by have:=of_decide_eq_false hb; omega
   have hie:i=sl.length:=by omega
   subst hie
   simp only [b09,b1b,b1a,c0s,b02,b0f,Nat.reduceEqDiff,not_false_eq_true]
   refine hK _ _ (b0b fun K hK=>?_)
   simp only [go_sem,s3]
   rw [List.take_length]
   rw [hc1]
   refine b01 ⟨j7b hg,c64 _,b0e _⟩ ?_
   simp only [go_sem]
   refine hK _ _ (b0v (b0b fun K hK=>?_))
   simp only [go_sem,s0,List.length_map]
   refine hK _ _ (b0i fun K hK=>?_)
   simp only [b0u]
   refine c2k (fun k t h=>t 25 = .fs 1 (List.map b4f sl)/\t 26=I (sl.length:Int)/\∃ i:Nat,i<=sl.length/\k=sl.length - i/\t 27=I (i:Int)/\t 6 = .v (.slice none 0 0)) sl.length ?_ ?_
   ·exact ⟨by simp only [go_sem,s0],by simp only [go_sem],0,by omega,by omega,by simp only [go_sem]; rfl,by simp only [go_sem]⟩
   ·rintro k t h ⟨s25,s26,i,hi,hk,s27,s6⟩
    rw [d5m]
    refine b0b fun K2 hK2=>?_
    simp only [go_sem,s26,s27]
    refine hK2 _ _ (b0i fun K3 hK3=>?_)
    simp only [go_sem]
    refine b0k (fun hb=>?_) (fun hb=>?_)
    ·simp only [b0s,b0f]
     refine hK3 _ _ (b0i fun K4 hK4=>?_)
     simp only [b0u]
     have hlt:i<sl.length:=by have:=of_decide_eq_true hb; omega
     have hx:sl[i]?=some sl[i]:=gG9 hlt
     generalize sl[i]=x at hx
     have h_x:get sl (i:Int)=some x:=by unfold get; rw [if_pos (by omega)]; simpa using hx
     have hfl:=c9m hx
     have hlen:(sl.take (i+1)).flatten.length=(sl.take i).flatten.length+x.length:=by rw [hfl,List.length_append]
     have hb1:=hle (i+1)
     have hx0:x=[]:=List.eq_nil_of_length_eq_zero (by omega)
     subst hx0
     refine b0b fun K5 hK5=>?_
     simp only [go_sem,s25,s27,b08 h_x,b3n h_x,b05 h_x,b06 h_x]
     refine hK5 _ _ ?_
     rw [b5n]
     simp only [go_sem,s6]
     refine j3x ?_
     simp only [go_sem,b02,b0f]
     refine hK4 _ _ ?_
     have e2:wr ((i:Int)+1)=((i+1:Nat):Int):=by rw [b3t (by omega) (by omega)]; omega
     refine b03 fun K6 hK6=>?_
     simp only [go_sem,s27,e2]
     refine hK6 _ _ ?_
     simp only [b0f]
     exact ⟨k - 1,by omega,by simp only [go_sem,s25],by simp only [go_sem,s26],i+1,by omega,by omega,by simp only [go_sem],by simp only [go_sem]⟩
    ·have hge:sl.length<=i:=by have:=of_decide_eq_false hb; omega
     have hie:i=sl.length:=by omega
     subst hie
     simp only [b09,b1b,b1a,c0s,b02,b0f,Nat.reduceEqDiff,not_false_eq_true]
     refine hK _ _ (b0b fun K hK=>?_)
     simp only [go_sem,s6]
     refine hK _ _ ?_
     simp only [b0x,b0y]
     exact b04 (by simp only [go_sem]) (b0e _)
end Go.Nw.YM
namespace Go.Nw.YM
open Go.Nw.Tp5
set_option maxHeartbeats 4000000
def kcV (v:V3):List Int:=[v.1,v.2.1,v.2.2]
def vU (_:Unit):Value:=.agg #[]
theorem L8z:∀ a b,b3o false (vks kcV a) (vks kcV b)=some (decide (a=b)):=j7d (n:=3) (fun _=>rfl) fun a b h=>by
 obtain ⟨a1,a2,a3⟩:=a; obtain ⟨b1,b2,b3⟩:=b
 simp only [kcV,List.cons.injEq,and_true] at h
 obtain ⟨rfl,rfl,rfl⟩:=h; rfl
def wm (W:List V3):List (V3 × Unit):=W.foldl (fun l w=>b3w l w ()) []
def crC (s:Shaft) (e:V3):List AV:=[I s.Size.1,I s.Size.2.1,I s.Size.2.2,I e.1,I e.2.1,I e.2.2,.fm (List.map (eM (vks kcV) vU) (wm s.Walls))]
@[go_sem] def aV (v:V3):List AV:=[I v.1,I v.2.1,I v.2.2]
@[go_sem] def shC (s:Shaft):List AV:=[I s.Size.1,I s.Size.2.1,I s.Size.2.2,.fs 3 (List.map b70 s.Walls)]
@[go_sem] def poC (p:Pose):List AV:=[I p.At.1,I p.At.2.1,I p.At.2.2,I p.Turn]
theorem L39 (v:V3):∀ c∈aV v,Frz c:=b0a (b0e _) (b0a (b0e _) (b0a (b0e _) b0j))
theorem K35 (p:Pose):∀ c∈poC p,Frz c:=b0a (b0e _) (b0a (b0e _) (b0a (b0e _) (b0a (b0e _) b0j)))
theorem L61 (s:Shaft):∀ c∈shC s,Frz c:=b0a (b0e _) (b0a (b0e _) (b0a (b0e _) (b0a (b0c fun a _=>K64 a) b0j)))
theorem L44 (s:Shaft) (e:V3):∀ c∈crC s e,Frz c:=b0a (b0e _) (b0a (b0e _) (b0a (b0e _) (b0a (b0e _) (b0a (b0e _) (b0a (b0e _) (b0a (.fm _) b0j))))))
theorem L68 {cs:List AV} {off n sz:Nat} {i:Int} {kd:IntKind} {h:Heap} {k:AV->Heap->Prop} (h0:0<=i) (h1:i<n):@c0d sz n (.fp cs off) (.v (.int kd i)) h ⟨k⟩=k (.fp cs (off+i.toNat * sz)) h:=by
 simp only [c0d,eff,evT,if_true,Nat.one_ne_zero,if_false]
 rw [if_pos ⟨h0,h1⟩]
 simp only [iE9,Prod.mk.injEq,eq_iff_iff]
 exact ⟨fun ⟨_,_,⟨e1,e2⟩,hk⟩=>by subst e1 e2; exact hk,fun hk=>⟨_,_,⟨rfl,rfl⟩,hk⟩⟩
theorem K7d {O:Orac} {c:X} {p q:XCode} {Q:XExit->Slots->Heap->Prop} {t:Slots} {h:Heap} {x:Bool} (hc:evT t c=B x) (h1:x=true->cw O p Q t h) (h2:x=false->cw O q Q t h):cw O (.cond c p q) Q t h:=by
 rw [g9i,hc]
 exact ⟨x,rfl,h1,h2⟩
theorem L8m:List.map GC.av b6h=[I 0,I 1,I 2,I 0,I 2,I 1,I 1,I 0,I 2,I 1,I 2,I 0,I 2,I 0,I 1,I 2,I 1,I 0]:=rfl
theorem M1t {cs ds:List AV} {sz n:Nat} {i:Int} {kd:IntKind} {h:Heap} {k:AV->Heap->Prop} (h0:0<=i) (h1:i<n) (h2:i.toNat * sz+sz<=cs.length) (hd:(cs.drop (i.toNat * sz)).take sz=ds):@d96 sz n true (.agg cs) (.v (.int kd i)) h ⟨k⟩=k (.agg ds) h:=by
 simp only [d96,eff,evT,if_true,Nat.one_ne_zero,if_false]
 rw [if_pos ⟨h0,h1⟩,if_pos h2,hd]
 simp only [iE9,Prod.mk.injEq,eq_iff_iff]
 exact ⟨fun ⟨_,_,⟨e1,e2⟩,hk⟩=>by subst e1 e2; exact hk,fun hk=>⟨_,_,⟨rfl,rfl⟩,hk⟩⟩
theorem s95 {cs:List AV} {i:Nat} {x:AV} {k:AV->Prop} (h:cs[i]?=some x):@c0b cs i ⟨k⟩=k x:=by
 show b4x cs i k=k x
 simp only [b4x,h,iE9,exists_eq_left']
variable {O:Orac} [MapsOk O]
theorem L50 {t:Int} (h:0<=t/\t<6):t=0\/t=1\/t=2\/t=3\/t=4\/t=5:=by omega
theorem L7d (hf:Has O "newel/newelref09.along" x_r09_along) (L7h:L6x O):L6t O:=by
 intro e t r hm0
 unfold L6g at hm0
 split at hm0
 case isFalse=>cases hm0
 rename_i ht
 obtain rfl:=Option.some.inj hm0
 refine b1i hf rfl (b0a (.agg _ (L39 e)) (b0a (b0e _) b0j)) (.agg _ (L39 _)) ?_
 have rows:∀ i:Int,0<=i/\i<6->(([I (((b90).1).1),I (((b90).1).2.1),I (((b90).1).2.2),I (((b90).2.1).1),I (((b90).2.1).2.1),I (((b90).2.1).2.2),I (((b90).2.2.1).1),I (((b90).2.2.1).2.1),I (((b90).2.2.1).2.2),I (((b90).2.2.2.1).1),I (((b90).2.2.2.1).2.1),I (((b90).2.2.2.1).2.2),I (((b90).2.2.2.2.1).1),I (((b90).2.2.2.2.1).2.1),I (((b90).2.2.2.2.1).2.2),I (((b90).2.2.2.2.2).1),I (((b90).2.2.2.2.2).2.1),I (((b90).2.2.2.2.2).2.2)].drop (i.toNat * 3)).take 3)=[I (l56 i).1,I (l56 i).2.1,I (l56 i).2.2]:=fun i hi=>by
  rcases L50 hi with rfl|rfl|rfl|rfl|rfl|rfl <;> rfl
 refine b1c (fun t1 h=>t1 0 = .agg (aV e)/\t1 1=I t) ⟨rfl,rfl⟩ fun t1 h ⟨s0,s1⟩=>?_
 simp only [x_r09_along]
 refine b0b fun K hK=>?_
 simp only [go_sem,s0]
 refine hK _ _ ?_
 clear hK K
 refine b0b fun K hK=>?_
 simp only [go_sem,s1]
 refine b01 (L7h ()) ?_
 simp only [go_sem,s1]
 rw [M1t ht.1 ht.2 (by simp only [List.length_cons,List.length_nil]; omega) (rows t ht)]
 simp only [go_sem]
 refine hK _ _ ?_
 clear hK K
 have e1:∀ k:Int,0<=k/\k<3->get [e.1,e.2.1,e.2.2] k=some (edg e k):=fun k hk=>by
  have : k=0\/k=1\/k=2:=by omega
  rcases this with rfl|rfl|rfl <;> rfl
 have o1:0<=(l56 t).1/\(l56 t).1<3:=by unfold l56; (repeat' split) <;> simp
 have o2:0<=(l56 t).2.1/\(l56 t).2.1<3:=by unfold l56; (repeat' split) <;> simp
 have o3:0<=(l56 t).2.2/\(l56 t).2.2<3:=by unfold l56; (repeat' split) <;> simp
 have g:∀ k:Int,0<=k/\k<3->([I e.1,I e.2.1,I e.2.2]:List AV)[k.toNat]?=some (I (edg e k)):=fun k hk=>by
  have : k=0\/k=1\/k=2:=by omega
  rcases this with rfl|rfl|rfl <;> rfl
 refine b0b fun K hK=>?_
 simp only [go_sem,d94 (n:=3) (e1 _ o1) rfl,d94 (n:=3) (e1 _ o2) rfl,d94 (n:=3) (e1 _ o3) rfl,s95 (g _ o1),s95 (g _ o2),s95 (g _ o3)]
 refine hK _ _ ?_
 clear hK K
 simp only [b0x,b1p,b0y]
 exact L18 (id:=h.nx) (m:=3) (cs:=aV (x61 e t)) (by simp only [go_sem]) (by simp only [go_sem,x61]) rfl (.refl _ (.agg _ (L39 _)))
def L6p (O:Orac):Prop:=∀ (s:Shaft) (e:V3) (t:Int),0<=t/\t<6->Fn O "(*newel/shaft.crate).long" [.fp (crC s e) 0,I t] (.agg (aV (x61 e t)))
def pr (e o:V3) (i:Nat):List AV:=[I (if 0<i then edg e o.1 else 0),I (if 1<i then edg e o.2.1 else 0),I (if 2<i then edg e o.2.2 else 0)]
theorem M2o (e o:V3) (i:Nat):(pr e o i).length=3:=rfl
theorem M2p (e:V3) (p1 p2 p3:Int) {i:Nat} {q:Int} (h:get [p1,p2,p3] (i:Int)=some q):(pr e (p1,p2,p3) i).take i++[I (edg e q)]++(pr e (p1,p2,p3) i).drop (i+1)=pr e (p1,p2,p3) (i+1):=by
 have := b06 h
 have hi:i=0\/i=1\/i=2:=by simp at this; omega
 rcases hi with rfl|rfl|rfl <;> (cases h; rfl)
theorem M2n (e o:V3):pr e o 3=[I (edg e o.1),I (edg e o.2.1),I (edg e o.2.2)]:=rfl
theorem M2i (t:Int):(0<=(l56 t).1/\(l56 t).1<3)/\(0<=(l56 t).2.1/\(l56 t).2.1<3)/\(0<=(l56 t).2.2/\(l56 t).2.2<3):=by unfold l56; (repeat' split) <;> simp
theorem L8l (e:V3) {k:Int} (hk:0<=k/\k<3):get [e.1,e.2.1,e.2.2] k=some (edg e k):=by
 have : k=0\/k=1\/k=2:=by omega
 rcases this with rfl|rfl|rfl <;> rfl
theorem M0s (s:Shaft) (e:V3) {k:Int} (hk:0<=k/\k<3):(crC s e)[3+k.toNat]?=some (I (edg e k)):=by
 have : k=0\/k=1\/k=2:=by omega
 rcases this with rfl|rfl|rfl <;> rfl
theorem L47 (hf:Has O "(*newel/shaft.crate).long" x___shaft_crate__long):L6p O:=by
 intro s e t ht
 refine b1i hf rfl (b0a (.fp _ _ (L44 s e)) (b0a (b0e _) b0j)) (.agg _ (L39 _)) ?_
 have hb:t.toNat * 3+3<=b6h.length:=by show _<=18; omega
 have rows:((List.map GC.av b6h).drop (t.toNat * 3)).take 3=aV (l56 t):=by
  rw [L8m]
  rcases L50 ht with rfl|rfl|rfl|rfl|rfl|rfl <;> rfl
 obtain ⟨o1,o2,o3⟩:=M2i t
 generalize ho:l56 t=o at rows o1 o2 o3
 obtain ⟨p1,p2,p3⟩:=o
 simp only at o1 o2 o3
 refine b1c (fun t1 h=>t1 0 = .fp (crC s e) 0/\t1 1=I t) ⟨rfl,rfl⟩ fun t1 h ⟨s0,s1⟩=>?_
 simp only [x___shaft_crate__long]
 refine b0b fun K hK=>?_
 simp only [go_sem]
 refine hK _ _ ?_
 clear hK K
 refine b0v ?_
 refine b0b fun K hK=>?_
 simp only [go_sem,s1]
 rw [L68 ht.1 ht.2]
 simp only [go_sem,hb,rows]
 refine hK _ _ ?_
 clear hK K
 refine b0i fun K0 hK0=>?_
 rw [b0u]
 refine c2k (fun k t1 h=>∃ (i:Nat) (b:Nat),i+k=3/\t1 0 = .fp (crC s e) 0/\t1 4 = .rp b 0 0/\t1 9 = .agg [I p1,I p2,I p3]/\t1 10=I i/\h.ob b=some (3,[pr e (p1,p2,p3) i])) 3 ?_ ?_
 ·exact ⟨0,h.nx,rfl,by simp only [go_sem,s0],by simp only [go_sem],by simp only [go_sem],by simp only [go_sem]; rfl,by simp only [go_sem]; rfl⟩
 rintro k t1 h1 ⟨i,b,hik,r0,r4,r9,r10,hob⟩
 simp only [L9j]
 refine b0b fun K hK=>?_
 simp only [go_sem,r10]
 refine hK _ _ ?_
 clear hK K
 refine b0i fun K1 hK1=>?_
 simp only [go_sem]
 refine b0k (fun hc=>?_) (fun hc=>?_)
 ·simp only [b0s,b0f]
  refine hK1 _ _ ?_
  have hi:i<3:=by have:=of_decide_eq_true hc; omega
  obtain ⟨q,hq,hqi⟩:∃ q,get [p1,p2,p3] (i:Int)=some q/\(0<=q/\q<3):=by
   have : i=0\/i=1\/i=2:=by omega
   rcases this with rfl|rfl|rfl
   ·exact ⟨p1,rfl,o1⟩
   ·exact ⟨p2,rfl,o2⟩
   ·exact ⟨p3,rfl,o3⟩
  have hz:∃ z:Int,get [(0:Int),0,0] (i:Int)=some z:=by
   have : i=0\/i=1\/i=2:=by omega
   rcases this with rfl|rfl|rfl <;> exact ⟨0,rfl⟩
  obtain ⟨z,hz⟩:=hz
  refine b0i fun K2 hK2=>?_
  rw [b0u]
  refine b0b fun K hK=>?_
  simp only [go_sem,r9,r10,o9i (n:=3) (cs:=[I p1,I p2,I p3]) hq rfl rfl]
  refine hK _ _ ?_
  clear hK K
  refine b03 fun K hK=>?_
  simp only [go_sem,r0,r4,hob,M2o,d94 (n:=3) (off:=3) (L8l e hqi) rfl,s95 (M0s s e hqi),c7f (n:=3) hz rfl]
  refine ⟨by rw [Int.toNat_natCast]; omega,hK _ _ ?_⟩
  clear hK K
  rw [Int.toNat_natCast]
  simp only [b02,b0f]
  refine hK2 _ _ ?_
  refine b03 fun K hK=>?_
  simp only [go_sem,r10]
  refine hK _ _ ?_
  clear hK K
  simp only [b0f]
  refine ⟨k - 1,by omega,i+1,b,by omega,by simp only [go_sem,r0],by simp only [go_sem,r4],by simp only [go_sem,r9],?_,?_⟩
  ·simp only [go_sem]
   rw [show IntKind.i64.wrap ((i:Int)+1)=((i+1:Nat):Int) from (b3t (by omega) (by omega)).trans rfl]
  ·simp only [go_sem]
   rw [M2p e p1 p2 p3 hq]
 ·simp only [b09,b1b,b1a,b0f]
  have hi:i=3:=by have:=of_decide_eq_false hc; omega
  subst hi
  refine hK0 _ _ ?_
  refine b0b fun K hK=>?_
  simp only [go_sem,r4,hob,M2n]
  refine hK _ _ ?_
  clear hK K
  simp only [b0x,b1p,b0y]
  refine L18 (id:=b) (m:=3) (cs:=aV (x61 e t)) (by simp only [go_sem,r4]) ?_ rfl (.refl _ (.agg _ (L39 _)))
  simp only [go_sem,x61,ho]
end Go.Nw.YM
namespace Go.Nw
section
variable {κ ν:Type} [DecidableEq κ]
theorem c0k:∀ {l:List (κ × ν)} {k:κ} {i:Nat},b2u l k i=none ↔ k ∉ l.map (·.1)
 | [],k,i=>by simp [b2u]
 | p :: l,k,i=>by
  simp only [b2u,List.map_cons,List.mem_cons,not_or]
  by_cases h:k=p.1
  ·simp [h]
  ·simp only [h,if_false,not_false_eq_true,true_and]; exact c0k
theorem c7w:∀ {l:List (κ × ν)} {k:κ} {i j:Nat} {v:ν},b2u l k i=some (j,v)->∃ d,j=i+d/\l[d]?=some (k,v)
 | [],k,i,j,v,h=>by simp [b2u] at h
 | p :: l,k,i,j,v,h=>by
  simp only [b2u] at h
  split at h
  ·rename_i e
   simp only [iE9,Prod.mk.injEq] at h
   exact ⟨0,by omega,by obtain ⟨_,rfl⟩:=h; subst e; rfl⟩
  ·obtain ⟨d,h1,h2⟩:=c7w h
   exact ⟨d+1,by omega,by simpa using h2⟩
theorem j78 {l:List (κ × ν)} {k:κ}:b6m l k=true ↔ k∈l.map (·.1):=by
 unfold b6m b7g
 cases h:b2u l k 0 with
 | none=>simpa using c0k.1 h
 | some p =>
  obtain ⟨d,_,h2⟩:=c7w (v:=p.2) (j:=p.1) h
  simp only [Option.map_some,Option.isSome_some,true_iff]
  exact List.mem_map.2 ⟨_,mG9 h2,rfl⟩
theorem g1w {l:List (κ × ν)} {k:κ} {v:ν} (h:k ∉ l.map (·.1)):b3w l k v=l++[(k,v)]:=by
 unfold b3w; rw [c0k.2 h]
theorem g1o {l:List (κ × ν)} {k:κ} {z:ν} (h:k ∉ l.map (·.1)):b2w l k z=z:=by
 unfold b2w b7g; rw [c0k.2 h]; rfl
theorem g1n {l:List (κ × ν)} {k:κ} {z:ν} (h:k∈l.map (·.1)):∃ (d:Nat),l[d]?=some (k,b2w l k z):=by
 unfold b2w b7g
 cases hm:b2u l k 0 with
 | none=>exact absurd h (c0k.1 hm)
 | some p =>
  obtain ⟨d,_,h2⟩:=c7w (v:=p.2) (j:=p.1) hm
  exact ⟨d,h2⟩
theorem j79 {l m:List (κ × ν)} {k:κ}:∀ {i:Nat},k ∉ l.map (·.1)->b2u (l++m) k i=b2u m k (i+l.length):=by
 induction l with
 | nil=>intro i _; simp
 | cons p l ih =>
  intro i h
  simp only [List.map_cons,List.mem_cons,not_or] at h
  simp only [List.cons_append,b2u,h.1,if_false,List.length_cons]
  rw [ih h.2]; congr 1; omega
theorem g1p:∀ {l:List (κ × ν)} {k:κ} {i d:Nat} {u v:ν},b2u l k i=some (i+d,u)->b2u (l.set d (k,v)) k i=some (i+d,v)
 | [],k,i,d,u,v,h=>by simp [b2u] at h
 | p :: l,k,i,d,u,v,h=>by
  simp only [b2u] at h
  split at h
  ·rename_i e
   simp only [iE9,Prod.mk.injEq] at h
   have : d=0:=by omega
   subst this
   simp [b2u]
  ·rename_i e
   obtain ⟨d',h1,_⟩:=c7w h
   obtain ⟨d,rfl⟩:∃ e,d=e+1:=⟨d - 1,by omega⟩
   simp only [List.set_cons_succ,b2u,e,if_false]
   have := g1p (l:=l) (k:=k) (i:=i+1) (d:=d) (u:=u) (v:=v) (by rw [h]; congr 2; omega)
   rw [this]; congr 2; omega
theorem j77 {l:List (κ × ν)} {k:κ} {v z:ν}:b2w (b3w l k v) k z=v:=by
 unfold b3w
 cases h:b2u l k 0 with
 | none =>
  simp only
  unfold b2w b7g
  rw [j79 (c0k.1 h)]
  simp [b2u]
 | some p =>
  obtain ⟨j,u⟩:=p
  simp only
  have := g1p (i:=0) (d:=j) (v:=v) (by rw [Nat.zero_add]; exact h)
  unfold b2w b7g
  rw [this]; rfl
theorem j76 {l:List (κ × ν)} {k:κ} {v z:ν} {j:Nat} (hn:(l.map (·.1)).Nodup) (h:l[j]?=some (k,v)):b2w l k z=v:=by
 obtain ⟨d,hd⟩:=g1n (z:=z) (List.mem_map.2 ⟨_,mG9 h,rfl⟩:k∈l.map (·.1))
 have h1:(l.map (·.1))[d]?=some k:=by rw [List.getElem?_map,hd]; rfl
 have h2:(l.map (·.1))[j]?=some k:=by rw [List.getElem?_map,h]; rfl
 have hlt1:=(gS9.1 h1).1
 have hlt2:=(gS9.1 h2).1
 have e:d=j:=(List.getElem?_inj hlt1 hn).1 (by rw [h1,h2])
 subst e
 rw [h] at hd
 simp only [iE9,Prod.mk.injEq,true_and] at hd
 exact hd.symm
end
end Go.Nw
namespace Go.Nw.YM
open Go.Nw.Tp5
set_option maxHeartbeats 4000000
theorem M2c {l:List (V3 × Unit)} {w x:V3}:x∈(b3w l w ()).map (·.1) ↔ x∈l.map (·.1)\/x=w:=by
 by_cases hw:w∈l.map (·.1)
 ·have e:b3w l w ()=l:=by
   unfold b3w
   cases h:b2u l w 0 with
   | none=>exact absurd hw (c0k.1 h)
   | some p =>
    obtain ⟨d,h1,h2⟩:=c7w (v:=p.2) (j:=p.1) h
    have h1:p.1=d:=by omega
    show l.set p.1 (w,())=l
    rw [h1]
    apply List.ext_getElem?
    intro i
    rw [List.getElem?_set]
    split
    ·rename_i e; subst e
     rw [h2,if_pos (gS9.1 h2).1]
    ·rfl
  rw [e]
  exact ⟨.inl,fun h=>h.elim id fun h=>h ▸ hw⟩
 ·rw [g1w hw,List.map_append,List.mem_append]
  simp
theorem L82 {W:List V3} {x:V3}:b6m (wm W) x=true ↔ x∈W:=by
 rw [j78]
 have key:∀ (W:List V3) (l:List (V3 × Unit)),x∈(W.foldl (fun l w=>b3w l w ()) l).map (·.1) ↔ x∈l.map (·.1)\/x∈W:=by
  intro W
  induction W with
  | nil=>intro l; simp
  | cons w W ih =>
   intro l
   rw [List.foldl_cons,ih,M2c,List.mem_cons,or_assoc]
 have := key W []
 unfold wm
 rw [this]; simp
variable {O:Orac} [MapsOk O]
theorem M1u {l:List (V3 × Unit)} {x:V3} {h:Heap} {k:AV->Heap->Prop} (hk:k (.tup [.agg [],B (b6m l x)]) h):@s3q O "#lj" [.fm (List.map (eM (vks kcV) vU) l),.agg [I x.1,I x.2.1,I x.2.2],.v (.agg #[]),I 3] h ⟨k⟩:=by
 refine b79 (k:=.look false true) rfl (r:=.tup [.agg [],B (b6m l x)]) (h':=h) ?_ hk
 have hv:b6j 3 (.agg [I x.1,I x.2.1,I x.2.2])=some (vks kcV x):=rfl
 simp only [b2i,hv,bS9,c7t L8z,Option.map_some]
 have := g1l (two:=true) (fv:=vU) (z:=()) l x
 rw [show (Value.agg #[])=vU () from rfl,this]
 rfl
theorem M1w {h:Heap} {k:AV->Heap->Prop} (hk:k (.fp [] 0) h):@s3q O "#z" [] h ⟨k⟩:=b79 (k:=.zz) rfl (r:=.fp [] 0) (h':=h) rfl hk
theorem M1v {cs:List AV} {off:Nat} {h:Heap} {k:AV->Heap->Prop} (hk:k .dead h):@s3q O "#s0" [.fp cs off,.agg []] h ⟨k⟩:=b79 (k:=.s0) rfl (r:=.dead) (h':=h) rfl hk
def b80 (v:V3):Prop:=l70 v.1/\l70 v.2.1/\l70 v.2.2
def Sml (v:V3):Prop:=sml v.1/\sml v.2.1/\sml v.2.2
def L6n (O:Orac):Prop:=∀ (s:Shaft) (e a m:V3),b80 s.Size->b80 m->Sml a->Fn O "(*newel/shaft.crate).free" [.fp (crC s e) 0,.agg (aV a),.agg (aV m)] (B (y50 s a m))
def l63 (v:V3) (k:Nat):Int:=if k=0 then v.1 else if k=1 then v.2.1 else v.2.2
theorem L42 (v:V3) {k:Nat} (hk:k<3):get [v.1,v.2.1,v.2.2] (k:Int)=some (l63 v k):=by
 have : k=0\/k=1\/k=2:=by omega
 rcases this with rfl|rfl|rfl <;> rfl
theorem M0o (v:V3) {k:Nat} (hk:k<3):(aV v)[k]?=some (I (l63 v k)):=by
 have : k=0\/k=1\/k=2:=by omega
 rcases this with rfl|rfl|rfl <;> rfl
theorem L58 (v:V3) {k:Nat} (hk:k<3):([I v.1,I v.2.1,I v.2.2]:List AV)[(k:Int).toNat]?=some (I (l63 v k)):=M0o v hk
theorem M0p (s:Shaft) (e:V3) {k:Nat} (hk:k<3):(crC s e)[(k:Int).toNat]?=some (I (l63 s.Size k)):=by
 have : k=0\/k=1\/k=2:=by omega
 rcases this with rfl|rfl|rfl <;> rfl
theorem L8v (z a m:V3):inB z a m=true ↔ ∀ k,k<3->0<=l63 a k/\l63 a k<=l63 z k - l63 m k:=by
 unfold inB
 simp only [Bool.and_eq_true,decide_eq_true_eq]
 constructor
 ·rintro ⟨⟨h1,h2⟩,h3⟩ k hk
  have : k=0\/k=1\/k=2:=by omega
  rcases this with rfl|rfl|rfl
  ·exact h1
  ·exact h2
  ·exact h3
 ·intro h
  exact ⟨⟨h 0 (by omega),h 1 (by omega)⟩,h 2 (by omega)⟩
theorem L8w (W:List V3) (a m:V3):inW W a m=true ↔ ∃ x y z,(x,y,z)∈W/\(a.1<=x/\x<a.1+m.1)/\(a.2.1<=y/\y<a.2.1+m.2.1)/\(a.2.2<=z/\z<a.2.2+m.2.2):=by
 unfold inW
 rw [List.any_eq_true]
 simp only [Bool.and_eq_true,decide_eq_true_eq]
 constructor
 ·rintro ⟨⟨x,y,z⟩,h,⟨h1,h2⟩,h3⟩
  exact ⟨x,y,z,h,h1,h2,h3⟩
 ·rintro ⟨x,y,z,h,h1,h2,h3⟩
  exact ⟨(x,y,z),h,⟨h1,h2⟩,h3⟩
theorem L8k {v:V3} (h:b80 v) {k:Nat} (hk:k<3):l70 (l63 v k):=by
 have : k=0\/k=1\/k=2:=by omega
 rcases this with rfl|rfl|rfl
 ·exact h.1
 ·exact h.2.1
 ·exact h.2.2
theorem M0q {v:V3} (h:Sml v) {k:Nat} (hk:k<3):sml (l63 v k):=by
 have : k=0\/k=1\/k=2:=by omega
 rcases this with rfl|rfl|rfl
 ·exact h.1
 ·exact h.2.1
 ·exact h.2.2
section
variable {s:Shaft} {e a m:V3} (hz:b80 s.Size) (hm:b80 m) (ha:Sml a)
include hz hm ha
theorem M03 {Q:XExit->Slots->Heap->Prop} {t:Slots} {h:Heap} (s0:t 0 = .fp (crC s e) 0) (s4:t 4 = .fp (aV a) 0) (s5:t 5 = .fp (aV m) 0) (s13:t 13=I 0)
  (hret : ∀ t h,inB s.Size a m=false->t 6=B false->Q .ret t h) (hq:∀ t h,inB s.Size a m=true->t 0 = .fp (crC s e) 0->t 4 = .fp (aV a) 0->t 5 = .fp (aV m) 0->Q .normal t h) :
  cw O (.block 0 (.loop L78)) Q t h:=by
 rw [b0u]
 refine c2k (fun k t1 h=>∃ (i:Nat),i+k=3/\t1 0 = .fp (crC s e) 0/\t1 4 = .fp (aV a) 0/\t1 5 = .fp (aV m) 0/\t1 13=I i/\∀ j,j<i->0<=l63 a j/\l63 a j<=l63 s.Size j - l63 m j) 3 ?_ ?_
 ·exact ⟨0,rfl,s0,s4,s5,s13,fun j hj=>by omega⟩
 rintro k t1 h1 ⟨i,hik,r0,r4,r5,r13,hall⟩
 simp only [L78]
 refine b0b fun K hK=>?_
 simp only [go_sem,r13]
 refine hK _ _ ?_
 clear hK K
 refine b0i fun K1 hK1=>?_
 simp only [go_sem]
 refine b0k (fun hc=>?_) (fun hc=>?_)
 ·simp only [b0s,b0f]
  refine hK1 _ _ ?_
  have hi:i<3:=by have:=of_decide_eq_true hc; omega
  have hzi:=L8k hz hi
  have hmi:=L8k hm hi
  have hai:=M0q ha hi
  have hw:IntKind.i64.wrap (l63 s.Size i - l63 m i)=l63 s.Size i - l63 m i:=b3t (by unfold l70 at hzi hmi; omega) (by unfold l70 at hzi hmi; omega)
  refine b0i fun K2 hK2=>?_
  rw [b0u]
  refine b0b fun K hK=>?_
  simp only [go_sem,r13]
  refine hK _ _ ?_
  clear hK K
  refine b2p (fun t h=>t 0 = .fp (crC s e) 0/\t 4 = .fp (aV a) 0/\t 5 = .fp (aV m) 0/\t 13=I i/\t 35=B (!(decide (0<=l63 a i/\l63 a i<=l63 s.Size i - l63 m i)))) (fun K hK=>?_) ?_
  ·simp only [go_sem,r0,r4,r5,r13,d94 (n:=3) (L42 a hi) rfl,s95 (L58 a hi)]
   refine b0k (fun hg=>?_) (fun hg=>?_)
   ·have hlt:¬ 0<=l63 a i:=by have:=of_decide_eq_true hg; omega
    simp only [go_sem,hg]
    exact hK _ _ ⟨by simp only [go_sem,r0],by simp only [go_sem,r4],by simp only [go_sem,r5],by simp only [go_sem,r13],by simp only [go_sem,hlt,false_and,decide_false,Bool.not_false]⟩
   ·have hge:0<=l63 a i:=by have:=of_decide_eq_false hg; omega
    simp only [go_sem,hg,r0,r4,r5,r13,d94 (n:=3) (L42 a hi) rfl,d94 (n:=3) (L42 m hi) rfl,d94 (n:=3) (cs:=crC s e) (off:=0) (L42 s.Size hi) rfl,s95 (L58 a hi),s95 (L58 m hi),s95 (M0p s e hi),hw]
    exact hK _ _ ⟨by simp only [go_sem,r0],by simp only [go_sem,r4],by simp only [go_sem,r5],by simp only [go_sem,r13],by simp only [go_sem,hge,true_and,<- decide_not,Int.not_le]⟩
  clear r0 r4 r5 r13
  rintro t2 h2 ⟨r0,r4,r5,r13,r35⟩
  refine K7d r35 (fun hb=>?_) (fun hb=>?_)
  ·refine b0b fun K hK=>?_
   simp only [go_sem]
   refine hK _ _ ?_
   clear hK K
   simp only [b0x,b2e,b1p]
   refine hret _ _ ?_ (by simp only [go_sem])
   rw [<- Bool.not_eq_true,L8v]
   intro hh
   have := hh i hi
   rw [decide_eq_true this] at hb
   cases hb
  ·simp only [b0s,b02,b0f]
   refine hK2 _ _ ?_
   refine b03 fun K hK=>?_
   simp only [go_sem,r13]
   refine hK _ _ ?_
   clear hK K
   simp only [b0f]
   refine ⟨k - 1,by omega,i+1,by omega,by simp only [go_sem,r0],by simp only [go_sem,r4],by simp only [go_sem,r5],?_,fun j hj=>?_⟩
   ·simp only [go_sem]
    rw [show IntKind.i64.wrap ((i:Int)+1)=((i+1:Nat):Int) from (b3t (by omega) (by omega)).trans rfl]
   ·by_cases ej:j=i
    ·subst ej
     simpa using hb
    ·exact hall j (by omega)
 ·simp only [b09,b1b,b1a]
  have hi:i=3:=by have:=of_decide_eq_false hc; omega
  subst hi
  exact hq _ _ ((L8v _ _ _).2 fun j hj=>hall j hj) (by simp only [go_sem,r0]) (by simp only [go_sem,r4]) (by simp only [go_sem,r5])
omit hz hm ha in
theorem M0r:(crC s e)[6]?=some (.fm (List.map (eM (vks kcV) vU) (wm s.Walls))):=rfl
omit hz in
theorem M07 {Q:XExit->Slots->Heap->Prop} {t:Slots} {h:Heap} {x y:Int} (s0:t 0 = .fp (crC s e) 0) (s4:t 4 = .fp (aV a) 0) (s5:t 5 = .fp (aV m) 0) (s8:t 8=I x) (s9:t 9=I y) (s10:t 10=I a.2.2)
  (hret : ∀ t h z,(a.2.2<=z/\z<a.2.2+m.2.2)->(x,y,z)∈s.Walls->t 6=B false->Q .ret t h)
  (hq : ∀ t h,(∀ z,(a.2.2<=z/\z<a.2.2+m.2.2)->(x,y,z) ∉ s.Walls)->t 0 = .fp (crC s e) 0->t 4 = .fp (aV a) 0->t 5 = .fp (aV m) 0->t 8=I x->t 9=I y->Q .normal t h) :
  cw O (.block 6 (.loop L75)) Q t h:=by
 have b1:=ha.2.2
 have b2:=hm.2.2
 unfold sml at b1
 unfold l70 at b2
 have hw:IntKind.i64.wrap (a.2.2+m.2.2)=a.2.2+m.2.2:=b3t (by omega) (by omega)
 rw [b0u]
 refine c2k (fun k t1 h=>∃ z:Int,z+k=a.2.2+m.2.2/\a.2.2<=z/\t1 0 = .fp (crC s e) 0/\t1 4 = .fp (aV a) 0/\t1 5 = .fp (aV m) 0/\t1 8=I x/\t1 9=I y/\t1 10=I z/\∀ z',(a.2.2<=z'/\z'<z)->(x,y,z') ∉ s.Walls) m.2.2.toNat ?_ ?_
 ·exact ⟨a.2.2,by omega,Int.le_refl _,s0,s4,s5,s8,s9,s10,fun z' hz'=>by omega⟩
 rintro k t1 h1 ⟨z,hk,hge,r0,r4,r5,r8,r9,r10,hall⟩
 simp only [L75]
 refine b0v ?_
 refine b0b fun K hK=>?_
 simp only [go_sem,r4,r5,r10,hw]
 refine hK _ _ ?_
 clear hK K
 refine b0i fun K1 hK1=>?_
 simp only [go_sem]
 refine b0k (fun hc=>?_) (fun hc=>?_)
 ·have hlt:=of_decide_eq_true hc
  simp only [b0s,b0f]
  refine hK1 _ _ ?_
  refine b0i fun K2 hK2=>?_
  rw [b0u]
  refine b0b fun K hK=>?_
  simp only [go_sem,r0,r8,r9,r10,s95 (M0r (s:=s) (e:=e))]
  refine M1u (x:=(x,y,z)) ?_
  simp only [go_sem,r0,r8,r9,r10]
  refine M1w ?_
  simp only [go_sem,r0,r8,r9,r10]
  refine M1v ?_
  simp only [go_sem,r0,r8,r9,r10]
  refine hK _ _ ?_
  clear hK K
  refine b0b fun K hK=>?_
  simp only [go_sem]
  refine hK _ _ ?_
  clear hK K
  refine K7d (x:=b6m (wm s.Walls) (x,y,z)) (by simp only [go_sem]) (fun hb=>?_) (fun hb=>?_)
  ·refine b0b fun K hK=>?_
   simp only [go_sem]
   refine hK _ _ ?_
   clear hK K
   simp only [b0x,b2e,b1p]
   exact hret _ _ z ⟨hge,hlt⟩ (L82.1 hb) (by simp only [go_sem])
  ·simp only [b0s,b02,b0f]
   refine hK2 _ _ ?_
   refine b03 fun K hK=>?_
   simp only [go_sem,r10]
   refine hK _ _ ?_
   clear hK K
   simp only [b0f]
   refine ⟨k - 1,by omega,z+1,by omega,by omega,by simp only [go_sem,r0],by simp only [go_sem,r4],by simp only [go_sem,r5],by simp only [go_sem,r8],by simp only [go_sem,r9],?_,fun z' hz'=>?_⟩
   ·simp only [go_sem]
    rw [show IntKind.i64.wrap (z+1)=z+1 from b3t (by omega) (by omega)]
   ·by_cases ez:z'=z
    ·subst ez
     intro hm
     rw [L82.2 hm] at hb; cases hb
    ·exact hall z' (by omega)
 ·have hnl:=of_decide_eq_false hc
  simp only [b09,b1b,b1a]
  exact hq _ _ (fun z' hz'=>hall z' (by omega)) (by simp only [go_sem,r0]) (by simp only [go_sem,r4]) (by simp only [go_sem,r5]) (by simp only [go_sem,r8]) (by simp only [go_sem,r9])
omit hz in
theorem M06 {Q:XExit->Slots->Heap->Prop} {t:Slots} {h:Heap} {x:Int} (s0:t 0 = .fp (crC s e) 0) (s4:t 4 = .fp (aV a) 0) (s5:t 5 = .fp (aV m) 0) (s8:t 8=I x) (s9:t 9=I a.2.1)
  (hret : ∀ t h y z,(a.2.1<=y/\y<a.2.1+m.2.1)->(a.2.2<=z/\z<a.2.2+m.2.2)->(x,y,z)∈s.Walls->t 6=B false->Q .ret t h)
  (hq : ∀ t h,(∀ y z,(a.2.1<=y/\y<a.2.1+m.2.1)->(a.2.2<=z/\z<a.2.2+m.2.2)->(x,y,z) ∉ s.Walls)->t 0 = .fp (crC s e) 0->t 4 = .fp (aV a) 0->t 5 = .fp (aV m) 0->t 8=I x->Q .normal t h) :
  cw O (.block 4 (.loop L76)) Q t h:=by
 have b1:=ha.2.1
 have b2:=hm.2.1
 unfold sml at b1
 unfold l70 at b2
 have hw:IntKind.i64.wrap (a.2.1+m.2.1)=a.2.1+m.2.1:=b3t (by omega) (by omega)
 rw [b0u]
 refine c2k (fun k t1 h=>∃ y:Int,y+k=a.2.1+m.2.1/\a.2.1<=y/\t1 0 = .fp (crC s e) 0/\t1 4 = .fp (aV a) 0/\t1 5 = .fp (aV m) 0/\t1 8=I x/\t1 9=I y/\∀ y' z',(a.2.1<=y'/\y'<y)->(a.2.2<=z'/\z'<a.2.2+m.2.2)->(x,y',z') ∉ s.Walls) m.2.1.toNat ?_ ?_
 ·exact ⟨a.2.1,by omega,Int.le_refl _,s0,s4,s5,s8,s9,fun y' z' hz'=>by omega⟩
 rintro k t1 h1 ⟨y,hk,hge,r0,r4,r5,r8,r9,hall⟩
 simp only [L76]
 refine b0v ?_
 refine b0b fun K hK=>?_
 simp only [go_sem,r4,r5,r9,hw]
 refine hK _ _ ?_
 clear hK K
 refine b0i fun K1 hK1=>?_
 simp only [go_sem]
 refine b0k (fun hc=>?_) (fun hc=>?_)
 ·have hlt:=of_decide_eq_true hc
  simp only [b0s,b0f]
  refine hK1 _ _ ?_
  refine b0i fun K2 hK2=>?_
  rw [b0u]
  refine b0b fun K hK=>?_
  simp only [go_sem,r4]
  refine hK _ _ ?_
  clear hK K
  refine M07 (s:=s) (e:=e) (x:=x) (y:=y) hm ha (by simp only [go_sem,r0]) (by simp only [go_sem,r4]) (by simp only [go_sem,r5]) (by simp only [go_sem,r8]) (by simp only [go_sem,r9]) (by simp only [go_sem]) (fun t h z hz hw h6=>?_) (fun t h hn r0 r4 r5 r8 r9=>?_)
  ·simp only [b2e,b1p]
   exact hret t h y z ⟨hge,hlt⟩ hz hw h6
  ·simp only [b02,b0f]
   refine hK2 _ _ ?_
   refine b03 fun K hK=>?_
   simp only [go_sem,r9]
   refine hK _ _ ?_
   clear hK K
   simp only [b0f]
   refine ⟨k - 1,by omega,y+1,by omega,by omega,by simp only [go_sem,r0],by simp only [go_sem,r4],by simp only [go_sem,r5],by simp only [go_sem,r8],?_,fun y' z' hy' hz'=>?_⟩
   ·simp only [go_sem]
    rw [show IntKind.i64.wrap (y+1)=y+1 from b3t (by omega) (by omega)]
   ·by_cases ey:y'=y
    ·subst ey; exact hn z' hz'
    ·exact hall y' z' (by omega) hz'
 ·have hnl:=of_decide_eq_false hc
  simp only [b09,b1b,b1a]
  exact hq _ _ (fun y' z' hy' hz'=>hall y' z' (by omega) hz') (by simp only [go_sem,r0]) (by simp only [go_sem,r4]) (by simp only [go_sem,r5]) (by simp only [go_sem,r8])
omit hz in
theorem M05 {Q:XExit->Slots->Heap->Prop} {t:Slots} {h:Heap} (s0:t 0 = .fp (crC s e) 0) (s4:t 4 = .fp (aV a) 0) (s5:t 5 = .fp (aV m) 0) (s8:t 8=I a.1)
  (hret : ∀ t h,inW s.Walls a m=true->t 6=B false->Q .ret t h) (hq:∀ t h,inW s.Walls a m=false->Q .normal t h) :
  cw O (.block 2 (.loop L77)) Q t h:=by
 have b1:=ha.1
 have b2:=hm.1
 unfold sml at b1
 unfold l70 at b2
 have hw:IntKind.i64.wrap (a.1+m.1)=a.1+m.1:=b3t (by omega) (by omega)
 rw [b0u]
 refine c2k (fun k t1 h=>∃ x:Int,x+k=a.1+m.1/\a.1<=x/\t1 0 = .fp (crC s e) 0/\t1 4 = .fp (aV a) 0/\t1 5 = .fp (aV m) 0/\t1 8=I x/\∀ x' y' z',(a.1<=x'/\x'<x)->(a.2.1<=y'/\y'<a.2.1+m.2.1)->(a.2.2<=z'/\z'<a.2.2+m.2.2)->(x',y',z') ∉ s.Walls) m.1.toNat ?_ ?_
 ·exact ⟨a.1,by omega,Int.le_refl _,s0,s4,s5,s8,fun x' y' z' hx'=>by omega⟩
 rintro k t1 h1 ⟨x,hk,hge,r0,r4,r5,r8,hall⟩
 simp only [L77]
 refine b0v ?_
 refine b0b fun K hK=>?_
 simp only [go_sem,r4,r5,r8,hw]
 refine hK _ _ ?_
 clear hK K
 refine b0i fun K1 hK1=>?_
 simp only [go_sem]
 refine b0k (fun hc=>?_) (fun hc=>?_)
 ·have hlt:=of_decide_eq_true hc
  simp only [b0s,b0f]
  refine hK1 _ _ ?_
  refine b0i fun K2 hK2=>?_
  rw [b0u]
  refine b0b fun K hK=>?_
  simp only [go_sem,r4]
  refine hK _ _ ?_
  clear hK K
  refine M06 (s:=s) (e:=e) (x:=x) hm ha (by simp only [go_sem,r0]) (by simp only [go_sem,r4]) (by simp only [go_sem,r5]) (by simp only [go_sem,r8]) (by simp only [go_sem]) (fun t h y z hy hz hw h6=>?_) (fun t h hn r0 r4 r5 r8=>?_)
  ·simp only [b2e,b1p]
   exact hret t h ((L8w _ _ _).2 ⟨x,y,z,hw,⟨hge,hlt⟩,hy,hz⟩) h6
  ·simp only [b02,b0f]
   refine hK2 _ _ ?_
   refine b03 fun K hK=>?_
   simp only [go_sem,r8]
   refine hK _ _ ?_
   clear hK K
   simp only [b0f]
   refine ⟨k - 1,by omega,x+1,by omega,by omega,by simp only [go_sem,r0],by simp only [go_sem,r4],by simp only [go_sem,r5],?_,fun x' y' z' hx' hy' hz'=>?_⟩
   ·simp only [go_sem]
    rw [show IntKind.i64.wrap (x+1)=x+1 from b3t (by omega) (by omega)]
   ·by_cases ex:x'=x
    ·subst ex; exact hn y' z' hy' hz'
    ·exact hall x' y' z' (by omega) hy' hz'
 ·have hnl:=of_decide_eq_false hc
  simp only [b09,b1b,b1a]
  refine hq _ _ ?_
  rw [<- Bool.not_eq_true,L8w]
  rintro ⟨x',y',z',hw,hx,hy,hz⟩
  exact hall x' y' z' (by omega) hy hz hw
end
theorem L46 (hf:Has O "(*newel/shaft.crate).free" x___shaft_crate__free):L6n O:=by
 intro s e a m hz hm ha
 refine b1i hf rfl (b0a (.fp _ _ (L44 s e)) (b0a (.agg _ (L39 a)) (b0a (.agg _ (L39 m)) b0j))) (b0e _) ?_
 refine b1c (fun t1 h=>t1 0 = .fp (crC s e) 0/\t1 1 = .agg (aV a)/\t1 2 = .agg (aV m)) ⟨rfl,rfl,rfl⟩ fun t1 h ⟨s0,s1,s2⟩=>?_
 simp only [x___shaft_crate__free]
 have fin:∀ t h b,y50 s a m=b->t 6=B b->c4n [.t 6] (B (y50 s a m)) [] .ret t h:=fun t h b hb h6=>by
  simp only [b0y]
  exact b04 (by rw [h6,hb]) (b0e _)
 refine b0b fun K hK=>?_
 simp only [go_sem,s1,s2]
 refine hK _ _ ?_
 clear hK K
 refine b0v ?_
 refine b0b fun K hK=>?_
 simp only [go_sem]
 refine hK _ _ ?_
 clear hK K
 rw [b9z]
 refine M03 (e:=e) hz hm ha (by simp only [go_sem,s0]) (by simp only [go_sem]) (by simp only [go_sem]) (by simp only [go_sem]) (fun t h hb h6=>?_) (fun t h hb r0 r4 r5=>?_)
 ·simp only [b1p]
  exact fin t h false (by unfold y50; rw [hb]; rfl) h6
 simp only [b0f]
 refine b0v ?_
 refine b0b fun K hK=>?_
 simp only [go_sem,r4]
 refine hK _ _ ?_
 clear hK K
 rw [b9z]
 refine M05 (s:=s) (e:=e) hm ha (by simp only [go_sem,r0]) (by simp only [go_sem,r4]) (by simp only [go_sem,r5]) (by simp only [go_sem]) (fun t h hb' h6=>?_) (fun t h hb'=>?_)
 ·simp only [b1p]
  exact fin t h false (by unfold y50; rw [hb,hb']; rfl) h6
 simp only [b0f]
 refine b0b fun K hK=>?_
 simp only [go_sem]
 refine hK _ _ ?_
 clear hK K
 simp only [b0x]
 exact fin _ _ true (by unfold y50; rw [hb,hb']; rfl) (by simp only [go_sem])
end Go.Nw.YM
namespace Go.Nw.YM
open Go.Nw.Tp5
set_option maxHeartbeats 4000000
variable {O:Orac} [MapsOk O]
theorem L60 {e:V3} (he:b80 e) (k:Int):l70 (edg e k):=by
 unfold edg
 split
 ·exact he.1
 split
 ·exact he.2.1
 ·exact he.2.2
theorem L5j {e:V3} (he:b80 e) (t:Int):b80 (x61 e t):=⟨L60 he _,L60 he _,L60 he _⟩
def L51 (O:Orac):Prop:=∀ (s:Shaft) (e:V3) (p:Pose),b80 s.Size->b80 e->Sml p.At->Fn O "(*newel/shaft.crate).fits" [.fp (crC s e) 0,.agg (poC p)] (B (l64 s e p))
theorem L59 (hf:Has O "(*newel/shaft.crate).fits" x___shaft_crate__fits) (kl:L6p O) (kf:L6n O):L51 O:=by
 intro s e p hz he hp
 refine b1i hf rfl (b0a (.fp _ _ (L44 s e)) (b0a (.agg _ (K35 p)) b0j)) (b0e _) ?_
 refine b1c (fun t1 h=>t1 0 = .fp (crC s e) 0/\t1 1 = .agg (poC p)) ⟨rfl,rfl⟩ fun t1 h ⟨s0,s1⟩=>?_
 simp only [x___shaft_crate__fits]
 refine b0b fun K hK=>?_
 simp only [go_sem,s1]
 refine hK _ _ ?_
 clear hK K
 refine b2p (fun t h=>t 4=B (l64 s e p)) (fun K hK=>?_) ?_
 ·simp only [go_sem,s0]
  refine b0k (fun h0=>?_) (fun h0=>?_)
  ·simp only [go_sem,s0,h0]
   refine b0k (fun h6=>?_) (fun h6=>?_)
   ·have ht:0<=p.Turn/\p.Turn<6:=⟨by have:=of_decide_eq_true h0; omega,of_decide_eq_true h6⟩
    simp only [go_sem,s0,h0,h6]
    refine b01 (kl s e p.Turn ht) ?_
    simp only [go_sem,s0,h0,h6]
    refine b01 (kf s e p.At (x61 e p.Turn) hz (L5j he _) hp) ?_
    simp only [go_sem,s0,h0,h6]
    exact hK _ _ (by simp only [go_sem]; unfold l64; rw [decide_eq_true ht]; rfl)
   ·have ht:¬ (0<=p.Turn/\p.Turn<6):=fun h=>by have:=of_decide_eq_false h6; omega
    simp only [go_sem,s0,h0,h6]
    exact hK _ _ (by simp only [go_sem]; unfold l64; rw [decide_eq_false ht]; rfl)
  ·have ht:¬ (0<=p.Turn/\p.Turn<6):=fun h=>by have:=of_decide_eq_false h0; omega
   simp only [go_sem,s0,h0]
   exact hK _ _ (by simp only [go_sem]; unfold l64; rw [decide_eq_false ht]; rfl)
 intro t h s4
 simp only [b0x,b0y]
 exact b04 s4 (b0e _)
theorem L43 {s:Shaft} {e:V3} {p:Pose} (hz:b80 s.Size) (he:b80 e) (h:l64 s e p=true):(0<=p.Turn/\p.Turn<6)/\(0<=p.At.1/\p.At.1<8)/\(0<=p.At.2.1/\p.At.2.1<8)/\(0<=p.At.2.2/\p.At.2.2<8):=by
 unfold l64 y50 inB at h
 simp only [Bool.and_eq_true,decide_eq_true_eq] at h
 obtain ⟨ht,⟨⟨h1,h2⟩,h3⟩,_⟩:=h
 obtain ⟨l1,l2,l3⟩:=L5j he p.Turn
 obtain ⟨z1,z2,z3⟩:=hz
 unfold l70 at l1 l2 l3 z1 z2 z3
 exact ⟨ht,by omega,by omega,by omega⟩
def L4z (O:Orac):Prop:=∀ (s:Shaft) (e:V3) (p:Pose) (m:Int),b80 s.Size->b80 e->l64 s e p=true->0<=m/\m<9->Fn O "(*newel/shaft.crate).move" [.fp (crC s e) 0,.agg (poC p),I m] (.tup [.agg (poC (K11 s e p m).1),B (K11 s e p m).2])
theorem M0w (v:V3) (t:Int) {k:Int} (hk:0<=k/\k<3):([I v.1,I v.2.1,I v.2.2,I t]:List AV)[k.toNat]?=some (I (edg v k)):=by
 have : k=0\/k=1\/k=2:=by omega
 rcases this with rfl|rfl|rfl <;> rfl
theorem M2k (v:V3) (t d:Int) {k:Int} (hk:0<=k/\k<3):([I v.1,I v.2.1,I v.2.2,I t]:List AV).take k.toNat++[AV.v (.int .i64 (edg v k+d))]++([I v.2.1,I v.2.2,I t]:List AV).drop k.toNat=[I (L4h v k d).1,I (L4h v k d).2.1,I (L4h v k d).2.2,I t]:=by
 have : k=0\/k=1\/k=2:=by omega
 rcases this with rfl|rfl|rfl <;> rfl
theorem M0v {v:V3} {a b k:Int} (h:(a<=v.1/\v.1<b)/\(a<=v.2.1/\v.2.1<b)/\(a<=v.2.2/\v.2.2<b)):a<=edg v k/\edg v k<b:=by
 unfold edg
 split
 ·exact h.1
 split
 ·exact h.2.1
 ·exact h.2.2
def L7n:List V3:=[(0,1,2),(0,2,1),(1,0,2),(1,2,0),(2,0,1),(2,1,0)]
theorem M0y (t:Slots):evT t (.gs 0 3 6 b6h) = .fs 3 (List.map b70 L7n):=rfl
theorem M1s {k:Int} (hk:0<=k/\k<6):L4d L7n (l56 k)=some k:=by
 rcases L50 hk with rfl|rfl|rfl|rfl|rfl|rfl
 ·unfold L4d; rw [d36 (n:=1) (b:=.inr 0) rfl]; rfl
 ·unfold L4d; rw [d36 (n:=2) (b:=.inr 1) rfl]; rfl
 ·unfold L4d; rw [d36 (n:=3) (b:=.inr 2) rfl]; rfl
 ·unfold L4d; rw [d36 (n:=4) (b:=.inr 3) rfl]; rfl
 ·unfold L4d; rw [d36 (n:=5) (b:=.inr 4) rfl]; rfl
 ·unfold L4d; rw [d36 (n:=6) (b:=.inr 5) rfl]; rfl
def swp (m:Int) (o:V3):V3:=if m=6 then (o.2.1,o.1,o.2.2) else if m=7 then (o.2.2,o.2.1,o.1) else (o.1,o.2.2,o.2.1)
theorem L9b {t m:Int} (ht:0<=t/\t<6) (hm:6<=m/\m<9):swp m (l56 t)=l56 (L4e t m)/\0<=L4e t m/\L4e t m<6:=by
 have : m=6\/m=7\/m=8:=by omega
 rcases this with rfl|rfl|rfl <;> rcases L50 ht with rfl|rfl|rfl|rfl|rfl|rfl <;> exact ⟨rfl,by decide,by decide⟩
def ax1 (m:Int):Int:=if m=8 then 1 else 0
def ax2 (m:Int):Int:=if m=6 then 1 else 2
theorem L4a {cs:List AV} {off n sz o:Nat} {i:Int} {kd:IntKind} {h:Heap} {k:AV->Heap->Prop} (h0:0<=i) (h1:i<n) (ho:off+i.toNat * sz=o):@c0d sz n (.fp cs off) (.v (.int kd i)) h ⟨k⟩=k (.fp cs o) h:=by
 rw [L68 h0 h1,ho]
def mxi (a b:V3) (i:Nat):V3:=(if 0<i then mx a.1 b.1 else a.1,if 1<i then mx a.2.1 b.2.1 else a.2.1,if 2<i then mx a.2.2 b.2.2 else a.2.2)
def mC (a b:V3) (i:Nat):List AV:=aV (mxi a b i)
theorem M18 (a b:V3) (i:Nat):(mC a b i).length=3:=rfl
theorem M17 (a b:V3) {i:Nat} (hi:i<3):(mC a b i)[(i:Int).toNat]?=some (I (l63 a i)):=by
 have : i=0\/i=1\/i=2:=by omega
 rcases this with rfl|rfl|rfl <;> rfl
theorem M19 (a b:V3) {i:Nat} (hi:i<3):(mC a b i).take i++[I (mx (l63 a i) (l63 b i))]++(mC a b i).drop (i+1)=mC a b (i+1):=by
 have : i=0\/i=1\/i=2:=by omega
 rcases this with rfl|rfl|rfl <;> rfl
theorem M16 (a b:V3):mC a b 3=aV (K78 a b):=rfl
theorem M2a {a b:V3} (ha:b80 a) (hb:b80 b):b80 (K78 a b):=by
 unfold b80 K78
 refine ⟨?_,?_,?_⟩ <;> (simp only; split)
 ·exact hb.1
 ·exact ha.1
 ·exact hb.2.1
 ·exact ha.2.1
 ·exact hb.2.2
 ·exact ha.2.2
theorem L8y (hf:Has O "(*newel/shaft.crate).move" x___shaft_crate__move) (kl:L6p O) (kf:L6n O) (ki:L51 O) (kx:L5d O):L4z O:=by
 intro s e p m hz he hp hm
 obtain ⟨ht,b1,b2,b3⟩:=L43 hz he hp
 refine b1i hf rfl (b0a (.fp _ _ (L44 s e)) (b0a (.agg _ (K35 p)) (b0a (b0e _) b0j))) (.tup _ (b0a (.agg _ (K35 _)) (b0a (b0e _) b0j))) ?_
 refine b1c (fun t1 h=>t1 0 = .fp (crC s e) 0/\t1 1 = .agg (poC p)/\t1 2=I m) ⟨rfl,rfl,rfl⟩ fun t1 h ⟨s0,s1,s2⟩=>?_
 simp only [x___shaft_crate__move]
 refine b0b fun K hK=>?_
 simp only [go_sem,s1]
 refine hK _ _ ?_
 clear hK K
 refine b0v ?_
 refine b0b fun K hK=>?_
 simp only [go_sem,s2]
 refine hK _ _ ?_
 clear hK K
 rw [b9z]
 refine K7d (x:=decide (m<6)) (by simp only [go_sem]) (fun hb=>?_) (fun hb=>?_)
 ·have h6:=of_decide_eq_true hb
  have hq:0<=m / 2/\m / 2<3:=by omega
  have w1:quo .i64 m 2=some (m / 2):=by rw [D1n (by decide),Int.tdiv_eq_ediv_of_nonneg hm.1]; exact congrArg some (b3t (by omega) (by omega))
  have w2:rem m 2=some (m % 2):=by unfold rem; rw [if_neg (by decide),Int.tmod_eq_emod_of_nonneg hm.1]
  have w3:IntKind.i64.wrap (2 * (m % 2))=2 * (m % 2):=b3t (by omega) (by omega)
  have w4:IntKind.i64.wrap (1 - 2 * (m % 2))=1 - 2 * (m % 2):=b3t (by omega) (by omega)
  have be:=M0v (v:=p.At) (k:=m / 2) ⟨b1,b2,b3⟩
  have w5:IntKind.i64.wrap (edg p.At (m / 2)+(1 - 2 * (m % 2)))=edg p.At (m / 2)+(1 - 2 * (m % 2)):=b3t (by omega) (by omega)
  refine b0b fun K hK=>?_
  simp only [go_sem,s2,C8p w1,K2k w2,w3,w4,w5,c7f (n:=3) (L8l p.At hq) rfl,s95 (M0w p.At p.Turn hq)]
  refine ⟨by omega,hK _ _ ?_⟩
  clear hK K
  rw [M2k p.At p.Turn _ hq]
  generalize hv:L4h p.At (m / 2) (1 - 2 * (m % 2))=v
  have hvs:Sml v:=by
   rw [<- hv]
   unfold L4h Sml sml
   split
   ·exact ⟨by simp only; omega,by simp only; omega,by simp only; omega⟩
   split
   ·exact ⟨by simp only; omega,by simp only; omega,by simp only; omega⟩
   ·exact ⟨by simp only; omega,by simp only; omega,by simp only; omega⟩
  have e1:K11 s e p m=(⟨v,p.Turn⟩,l64 s e ⟨v,p.Turn⟩):=by unfold K11; rw [if_pos h6,hv]
  rw [e1]
  refine b0b fun K hK=>?_
  simp only [go_sem,s0]
  refine b01 (ki s e ⟨v,p.Turn⟩ hz he hvs) ?_
  simp only [go_sem,s0]
  refine hK _ _ ?_
  clear hK K
  simp only [b0x,b1p,b0y]
  exact p2s (id:=nxs h.nx) (m:=4) (cs:=poC ⟨v,p.Turn⟩) (u:=B (l64 s e ⟨v,p.Turn⟩)) (by simp only [go_sem]) (by simp only [go_sem]) rfl (by simp only [go_sem]) (.refl _ (.agg _ (K35 _))) (.refl _ (b0e _))
 ·have h6:=of_decide_eq_false hb
  simp only [b0s,b0f]
  refine b0b fun K hK=>?_
  simp only [go_sem]
  rw [L68 ht.1 ht.2]
  have hb3:p.Turn.toNat * 3+3<=b6h.length:=by show _<=18; omega
  have rows:((List.map GC.av b6h).drop (p.Turn.toNat * 3)).take 3=aV (l56 p.Turn):=by
   rw [L8m]
   rcases L50 ht with h|h|h|h|h|h <;> rw [h] <;> rfl
  simp only [go_sem,hb3,rows]
  refine hK _ _ ?_
  clear hK K
  have hm6:m=6\/m=7\/m=8:=by omega
  have w1:IntKind.i64.wrap (m - 6)=m - 6:=b3t (by omega) (by omega)
  refine b2p (fun t h2=>t 0 = .fp (crC s e) 0/\t 2=I m/\t 4 = .rp h.nx 0 0/\t 6 = .rp (nxs h.nx) 0 0/\t 8 = .rp (nxs (nxs h.nx)) 0 0/\t 9=I (ax1 m)/\t 10=I (ax2 m)/\h2.nx=nxs (nxs (nxs h.nx)) /\
   h2.ob h.nx=some (4,[poC p])/\h2.ob (nxs h.nx)=some (4,[[I 0,I 0,I 0,I 0]])/\h2.ob (nxs (nxs h.nx))=some (3,[aV (l56 p.Turn)])) (fun K hK=>?_) ?_
  ·have w6:IntKind.i64.wrap (m - 6)=m - 6:=b3t (by omega) (by omega)
   rcases hm6 with rfl|rfl|rfl
   ·simp only [go_sem,s2,w6,L4a (i:=6 - 6) (off:=0) (o:=0) (n:=3) (sz:=2) (by decide) (by decide) rfl,L4a (i:=0) (off:=0) (o:=0) (n:=2) (sz:=1) (by decide) (by decide) rfl,L4a (i:=1) (off:=0) (o:=1) (n:=2) (sz:=1) (by decide) (by decide) rfl,s95 (cs:=List.map GC.av u0n) (i:=0) (x:=I 0) rfl,s95 (cs:=List.map GC.av u0n) (i:=1) (x:=I 1) rfl]
    refine hK _ _ ?_
    simp only [go_sem,s0,s2]
    first | exact ⟨rfl,rfl⟩|trivial|rfl|trace_state
   ·simp only [go_sem,s2,w6,L4a (i:=7 - 6) (off:=0) (o:=2) (n:=3) (sz:=2) (by decide) (by decide) rfl,L4a (i:=0) (off:=2) (o:=2) (n:=2) (sz:=1) (by decide) (by decide) rfl,L4a (i:=1) (off:=2) (o:=3) (n:=2) (sz:=1) (by decide) (by decide) rfl,s95 (cs:=List.map GC.av u0n) (i:=2) (x:=I 0) rfl,s95 (cs:=List.map GC.av u0n) (i:=3) (x:=I 2) rfl]
    refine hK _ _ ?_
    simp only [go_sem,s0,s2]
    first | exact ⟨rfl,rfl⟩|trivial|rfl|trace_state
   ·simp only [go_sem,s2,w6,L4a (i:=8 - 6) (off:=0) (o:=4) (n:=3) (sz:=2) (by decide) (by decide) rfl,L4a (i:=0) (off:=4) (o:=4) (n:=2) (sz:=1) (by decide) (by decide) rfl,L4a (i:=1) (off:=4) (o:=5) (n:=2) (sz:=1) (by decide) (by decide) rfl,s95 (cs:=List.map GC.av u0n) (i:=4) (x:=I 1) rfl,s95 (cs:=List.map GC.av u0n) (i:=5) (x:=I 2) rfl]
    refine hK _ _ ?_
    simp only [go_sem,s0,s2]
    first | exact ⟨rfl,rfl⟩|trivial|rfl|trace_state
  rintro t h2 ⟨r0,r2,r4,r6,r8,r9,r10,hnx,o4,o6,o8⟩
  obtain ⟨ho,hu0,hu6⟩:=L9b ht (m:=m) (by omega)
  generalize hod:l56 p.Turn=o at o8 ho
  generalize hud:L4e p.Turn m=u at ho hu0 hu6
  refine b2p (fun t h3=>t 0 = .fp (crC s e) 0/\t 4 = .rp h.nx 0 0/\t 6 = .rp (nxs h.nx) 0 0/\t 8 = .rp (nxs (nxs h.nx)) 0 0/\h3.nx=nxs (nxs (nxs h.nx)) /\
   h3.ob h.nx=some (4,[poC p])/\h3.ob (nxs h.nx)=some (4,[[I 0,I 0,I 0,I 0]])/\h3.ob (nxs (nxs h.nx))=some (3,[aV (l56 u)])) (fun K hK=>?_) ?_
  ·rw [<- ho] at hK
   obtain ⟨p1,p2,p3⟩:=o
   rcases hm6 with rfl|rfl|rfl
   ·have r9:t 9=I 0:=r9
    have r10:t 10=I 1:=r10
    simp only [go_sem,r8,r9,r10,o8,show Int.toNat 0=0 from rfl,show Int.toNat 1=1 from rfl,show Int.toNat 2=2 from rfl,c7f (l:=[p1,p2,p3]) (i:=0) (n:=3) rfl rfl,c7f (l:=[p1,p2,p3]) (i:=1) (n:=3) rfl rfl]
    refine hK _ _ ?_
    simp only [go_sem,r0,r4,r6,r8,hnx,o4,o6]
    first | exact ⟨rfl,rfl⟩|trivial|rfl|trace_state
   ·have r9:t 9=I 0:=r9
    have r10:t 10=I 2:=r10
    simp only [go_sem,r8,r9,r10,o8,show Int.toNat 0=0 from rfl,show Int.toNat 1=1 from rfl,show Int.toNat 2=2 from rfl,c7f (l:=[p1,p2,p3]) (i:=0) (n:=3) rfl rfl,c7f (l:=[p1,p2,p3]) (i:=2) (n:=3) rfl rfl]
    refine hK _ _ ?_
    simp only [go_sem,r0,r4,r6,r8,hnx,o4,o6]
    first | exact ⟨rfl,rfl⟩|trivial|rfl|trace_state
   ·have r9:t 9=I 1:=r9
    have r10:t 10=I 2:=r10
    simp only [go_sem,r8,r9,r10,o8,show Int.toNat 0=0 from rfl,show Int.toNat 1=1 from rfl,show Int.toNat 2=2 from rfl,c7f (l:=[p1,p2,p3]) (i:=1) (n:=3) rfl rfl,c7f (l:=[p1,p2,p3]) (i:=2) (n:=3) rfl rfl]
    refine hK _ _ ?_
    simp only [go_sem,r0,r4,r6,r8,hnx,o4,o6]
    first | exact ⟨rfl,rfl⟩|trivial|rfl|trace_state
  clear r0 r2 r4 r6 r8 r9 r10 hnx o4 o6 o8 t h2
  rintro t h2 ⟨r0,r4,r6,r8,hnx,o4,o6,o8⟩
  refine b0b fun K hK=>?_
  simp only [go_sem,r0,r4,r6,r8,hnx,o4,o6,o8,M0y]
  refine b01 (kx L7n (l56 u) u (M1s ⟨hu0,hu6⟩)) ?_
  simp only [go_sem,r0,r4,r6,r8,hnx,o4,o6,o8]
  refine hK _ _ ?_
  clear hK K
  refine b0b fun K hK=>?_
  simp only [go_sem,r0,r4,r6,r8,hnx,o4,o6,o8]
  refine b01 (kl s e u ⟨hu0,hu6⟩) ?_
  simp only [go_sem,r0,r4,r6,r8,hnx,o4,o6,o8]
  refine b01 (kl s e p.Turn ht) ?_
  simp only [go_sem,r0,r4,r6,r8,hnx,o4,o6,o8]
  refine hK _ _ ?_
  clear hK K
  refine b0v ?_
  refine b0b fun K hK=>?_
  simp only [go_sem]
  refine hK _ _ ?_
  clear hK K
  rw [b9z,b0u]
  refine c2k (fun k t1 h'=>∃ i:Nat,i+k=3/\t1 0 = .fp (crC s e) 0/\t1 4 = .rp h.nx 0 0/\t1 6 = .rp (nxs h.nx) 0 0/\t1 11 = .rp (nxs (nxs (nxs h.nx))) 0 0/\t1 12 = .rp (nxs (nxs (nxs (nxs h.nx)))) 0 0/\t1 13 = .rp (nxs (nxs (nxs (nxs (nxs h.nx))))) 0 0/\t1 71=I i /\
   h'.ob h.nx=some (4,[poC p])/\h'.ob (nxs h.nx)=some (4,[[I 0,I 0,I 0,I 0]])/\h'.ob (nxs (nxs (nxs h.nx)))=some (4,[poC ⟨p.At,u⟩])/\h'.ob (nxs (nxs (nxs (nxs h.nx))))=some (3,[mC (x61 e u) (x61 e p.Turn) i])/\h'.ob (nxs (nxs (nxs (nxs (nxs h.nx)))))=some (3,[aV (x61 e p.Turn)])) 3 ?_ ?_
  ·refine ⟨0,rfl,?_⟩
   simp only [go_sem,r0,r4,r6,r8,hnx,o4,o6,o8]
   first | exact ⟨rfl,rfl⟩|trivial|rfl|trace_state
  clear r0 r4 r6 r8 hnx o4 o6 o8
  clear t h2
  rintro k t h2 ⟨i,hik,r0,r4,r6,r11,r12,r13,r71,o4,o6,o11,o12,o13⟩
  generalize hA:x61 e u=A at *
  generalize hB:x61 e p.Turn=Bb at *
  simp only [L9k]
  refine b0b fun K hK=>?_
  simp only [go_sem,r71]
  refine hK _ _ ?_
  clear hK K
  refine b0i fun K1 hK1=>?_
  simp only [go_sem]
  refine b0k (fun hc=>?_) (fun hc=>?_)
  ·simp only [b0s,b0f]
   refine hK1 _ _ ?_
   have hi:i<3:=by have:=of_decide_eq_true hc; omega
   refine b0i fun K2 hK2=>?_
   rw [b0u]
   refine b0b fun K hK=>?_
   simp only [go_sem,r71]
   refine hK _ _ ?_
   clear hK K
   refine b03 fun K hK=>?_
   simp only [go_sem,r0,r4,r6,r11,r12,r13,r71,o12,o13,M18,c7f (n:=3) (L42 A hi) rfl,c7f (n:=3) (L42 Bb hi) rfl,s95 (M17 A Bb hi),s95 (L58 Bb hi)]
   refine ⟨by rw [Int.toNat_natCast]; omega,hK _ _ ?_⟩
   clear hK K
   rw [Int.toNat_natCast,M19 A Bb hi]
   simp only [b02,b0f]
   refine hK2 _ _ ?_
   refine b03 fun K hK=>?_
   simp only [go_sem,r71]
   refine hK _ _ ?_
   clear hK K
   simp only [b0f]
   refine ⟨k - 1,by omega,i+1,by omega,?_⟩
   simp only [go_sem,r0,r4,r6,r11,r12,r13,r71,o4,o6,o11,o12,o13]
   first | exact congrArg I (b3t (by omega) (by omega))|exact ⟨congrArg I (b3t (by omega) (by omega)),rfl⟩|trace_state
  ·have hi:i=3:=by have:=of_decide_eq_false hc; omega
   subst hi
   simp only [b09,b1b,b1a,b0f]
   rw [M16] at o12
   have hbA:b80 A:=hA ▸ L5j he _
   have hbB:b80 Bb:=hB ▸ L5j he _
   have hsm:Sml p.At:=by unfold Sml sml; omega
   have e1:K11 s e p m=(⟨p.At,u⟩,y50 s p.At (K78 A Bb)):=by unfold K11; rw [if_neg h6,hud,hA,hB]
   rw [e1]
   refine b0b fun K hK=>?_
   simp only [go_sem,r0,r4,r6,r11,r12,r13,r71,o4,o6,o11,o12,o13]
   refine b01 (kf s e p.At (K78 A Bb) hz (M2a hbA hbB) hsm) ?_
   simp only [go_sem,r0,r4,r6,r11,r12,r13,r71,o4,o6,o11,o12,o13]
   refine hK _ _ ?_
   clear hK K
   simp only [b0x,b1p,b0y]
   exact p2s (id:=nxs h.nx) (m:=4) (cs:=poC ⟨p.At,u⟩) (u:=B (y50 s p.At (K78 A Bb))) (by simp only [go_sem,r6]) (by simp only [go_sem]) rfl (by simp only [go_sem]) (.refl _ (.agg _ (K35 _))) (.refl _ (b0e _))
end Go.Nw.YM
namespace Go.Nw.YM
open Go.Nw.Tp5
set_option maxHeartbeats 4000000
variable {O:Orac} [MapsOk O]
theorem L7a {κ ν:Type} [DecidableEq κ] {fk:κ->Value} {fv:ν->Value} {h:Heap} {k:AV->Heap->Prop} {f:String} {id:Nat} {key y:AV} {n:Int} {l:List (κ × ν)} {x:κ} {v:ν} (hm:b2k f=some (.put false)) (hkk:∀ a b,b3o false (fk a) (fk b)=some (decide (a=b))) (hv:b6j n key=some (fk x)) (hu:unv y=some (fv v)) (ho:h.ob id=some (0,l.map (eM fk fv)))
  (hk : k .dead (h.upd id (some (0,(b3w l x v).map (eM fk fv))))):@s3q O f [.mp id,key,y,I n] h ⟨k⟩:=by
 refine b79 hm (r:=.dead) (h':=h.upd id (some (0,(b3w l x v).map (eM fk fv)))) ?_ hk
 simp only [hu,b2i,ho,bS9,hv,if_true,c7t hkk,Option.map_some,j74]
theorem M21 (W:List V3) {i:Nat} {w:V3} (hw:W[i]?=some w):wm (W.take (i+1))=b3w (wm (W.take i)) w ():=by
 unfold wm
 rw [List.take_add_one,hw,List.foldl_append]
 rfl
theorem M00 {κ ν:Type} {fk:κ->Value} {fv:ν->Value} (l:List (κ × ν)):(List.map (eM fk fv) l).head?≠some []:=by
 cases l with
 | nil=>simp
 | cons a l=>simp [eM]
theorem M2h (m:Nat):b2d (.mp m)=true:=rfl
theorem M0n (m:Nat):cellsOf (.mp m)=[.mp m]:=rfl
def L6m (O:Orac):Prop:=∀ (s:Shaft) (e:V3),s.Walls.length<=256->Fn O "newel/shaft.begin" [.agg (shC s),.agg (aV e)] (.fp (crC s e) 0)
theorem L8x (hf:Has O "newel/shaft.begin" x_shaft_begin):L6m O:=by
 intro s e hn
 refine b1i hf rfl (b0a (.agg _ (L61 s)) (b0a (.agg _ (L39 e)) b0j)) (.fp _ _ (L44 s e)) ?_
 refine b1c (fun t1 h=>t1 0 = .agg (shC s)/\t1 1 = .agg (aV e)) ⟨rfl,rfl⟩ fun t1 h ⟨s0,s1⟩=>?_
 simp only [x_shaft_begin]
 refine b0b fun K hK=>?_
 simp only [go_sem,s0,s1]
 refine hK _ _ ?_
 clear hK K
 refine b0b fun K hK=>?_
 simp only [go_sem]
 refine g0d (O:=O) (e:=List.map (eM (vks kcV) vU) ([]:List (V3 × Unit))) rfl ?_
 simp only [go_sem,M2h,M0n,List.length_cons,List.length_nil,and_self,if_true,Option.map_some]
 refine hK _ _ ?_
 clear hK K
 refine b0v ?_
 refine b0b fun K hK=>?_
 simp only [go_sem]
 refine hK _ _ ?_
 clear hK K
 rw [b9z,b0u]
 refine c2k (fun k t1 h'=>∃ (i:Nat) (b m:Nat),i+k=s.Walls.length/\t1 5 = .rp b 0 0/\t1 15 = .fs 3 (List.map b70 s.Walls)/\t1 16=I s.Walls.length/\t1 17=I i /\
  h'.ob b=some (7,[[I s.Size.1,I s.Size.2.1,I s.Size.2.2,I e.1,I e.2.1,I e.2.2,.mp m]])/\b<h'.nx/\h'.ob m=some (0,List.map (eM (vks kcV) vU) (wm (s.Walls.take i)))/\m<h'.nx/\¬ b=m) s.Walls.length ?_ ?_
 ·refine ⟨0,nxs (nxs (nxs h.nx)),nxs (nxs h.nx),by omega,?_⟩
  simp only [go_sem,List.length_map]
  refine ⟨rfl,?_⟩
  first | trivial|rfl|trace_state
 rintro k t h' ⟨i,b,m,hik,r5,r15,r16,r17,ob,lb,om,lm,ne⟩
 simp only [L9y]
 refine b0b fun K hK=>?_
 simp only [go_sem,r16,r17]
 refine hK _ _ ?_
 clear hK K
 refine b0i fun K1 hK1=>?_
 simp only [go_sem]
 refine b0k (fun hc=>?_) (fun hc=>?_)
 ·have hi:i<s.Walls.length:=by have:=of_decide_eq_true hc; omega
  simp only [b0s,b0f]
  refine hK1 _ _ ?_
  obtain ⟨w,hw⟩:∃ w,s.Walls[i]?=some w:=⟨s.Walls[i],by simp [hi]⟩
  have hg:get s.Walls (i:Int)=some w:=by unfold get; simp [hw]
  have hg1:=b06 hg
  refine b0i fun K2 hK2=>?_
  rw [b0u]
  refine b0b fun K hK=>?_
  simp only [go_sem,r5,r15,r17,b08 hg,b3n hg,hg1]
  refine hK _ _ ?_
  clear hK K
  refine b03 fun K hK=>?_
  simp only [go_sem,r5,ob,lb,om,lm,ne,b1z ne]
  refine L7a (fk:=vks kcV) (fv:=vU) (l:=wm (s.Walls.take i)) (x:=w) (v:=()) g1t L8z rfl rfl ?_ ?_
  ·simp only [go_sem,om,lm]
  simp only [go_sem,r5,ob,lb,om,lm,ne,b1z ne]
  refine hK _ _ ?_
  clear hK K
  simp only [b02,b0f]
  refine hK2 _ _ ?_
  refine b03 fun K hK=>?_
  simp only [go_sem,r17]
  refine hK _ _ ?_
  clear hK K
  simp only [b0f]
  refine ⟨k - 1,by omega,i+1,b,m,by omega,?_⟩
  have hwr:IntKind.i64.wrap ((i:Int)+1)=((i+1:Nat):Int):=(b3t (by omega) (by omega)).trans rfl
  simp only [go_sem,r5,r15,r16,r17,ob,lb,om,lm,ne,b1z ne,hwr,M21 _ hw]
  first | exact ⟨by omega,by omega⟩|omega|trivial|trace_state
 ·have hi:i=s.Walls.length:=by have:=of_decide_eq_false hc; omega
  subst hi
  rw [List.take_length] at om
  simp only [b09,b1b,b1a,b0f]
  refine b0b fun K hK=>?_
  simp only [go_sem,r5]
  refine hK _ _ ?_
  clear hK K
  simp only [b0x,b1p,b0y]
  refine b8e (v:=.rp b 0 0) (by simp only [go_sem,r5]) (x65 (id:=b) (sz:=7) (xs:=[I s.Size.1,I s.Size.2.1,I s.Size.2.2,I e.1,I e.2.1,I e.2.2,.mp m]) ob ?_)
  exact .cons (.refl _ (b0e _)) (.cons (.refl _ (b0e _)) (.cons (.refl _ (b0e _)) (.cons (.refl _ (b0e _)) (.cons (.refl _ (b0e _)) (.cons (.refl _ (b0e _)) (.cons (.mp _ _ om (M00 _)) .nil))))))
end Go.Nw.YM
namespace Go.Nw.YM
open Go.Nw.Tp5
set_option maxHeartbeats 4000000
variable {O:Orac} [MapsOk O]
theorem L4q {s:Shaft} {e:V3} (h:OkSh s e):b80 s.Size:=h.z
theorem L4p {s:Shaft} {e:V3} (h:OkSh s e):b80 e:=h.ed
theorem M11 (hf:Has O "newel/shaft.Move" x_shaft_Move) (kc:L41 O) (kb:L6m O) (ki:L51 O) (km:L4z O):L54 O:=by
 intro s e p m r hm0
 unfold L5x at hm0
 split at hm0
 case isFalse=>cases hm0
 rename_i hok
 obtain ⟨hok,hsm⟩:=hok
 have hr:=Option.some.inj hm0
 refine b1i hf rfl (b0a (.agg _ (L61 s)) (b0a (.agg _ (L39 e)) (b0a (.agg _ (K35 p)) (b0a (b0e _) b0j)))) (.tup _ (b0a (.agg _ (K35 _)) (b0a (b0e _) b0j))) ?_
 refine b1c (fun t1 h=>t1 0 = .agg (shC s)/\t1 1 = .agg (aV e)/\t1 2 = .agg (poC p)/\t1 3=I m) ⟨rfl,rfl,rfl,rfl⟩ fun t1 h ⟨s0,s1,s2,s3⟩=>?_
 simp only [x_shaft_Move]
 refine b0b fun K hK=>?_
 simp only [go_sem,s0,s1,s2]
 refine hK _ _ ?_
 clear hK K
 refine b0v ?_
 refine b0b fun K hK=>?_
 simp only [go_sem,s0,s1,s2]
 refine b01 (kc s e 0 hok.c) ?_
 simp only [go_sem,s0,s1,s2]
 refine hK _ _ ?_
 clear hK K
 refine b0v ?_
 refine b0b fun K hK=>?_
 simp only [go_sem]
 refine hK _ _ ?_
 clear hK K
 rw [b9z]
 refine K7d (x:=false) (by simp only [go_sem]; rfl) (fun hb=>by cases hb) (fun _=>?_)
 simp only [b0s,b0f]
 refine b0b fun K hK=>?_
 simp only [go_sem]
 refine b01 (kb s e hok.n) ?_
 simp only [go_sem]
 refine hK _ _ ?_
 clear hK K
 refine b0v ?_
 refine b2p (fun t h'=>t 35=B (!(l64 s e p) || decide (m<0) || decide (8<m))/\t 3=I m/\t 6 = .fp (poC p) 0/\t 11 = .fp (crC s e) 0/\t 8 = .rp h.nx 0 0/\h'.nx=nxs h.nx/\h'.ob h.nx=some (4,[[I 0,I 0,I 0,I 0]])) (fun K hK=>?_) ?_
 ·simp only [go_sem,s3]
  refine b01 (ki s e p (L4q hok) (L4p hok) ⟨hsm.1,hsm.2.1,hsm.2.2.1⟩) ?_
  simp only [go_sem,s3]
  refine b0k (fun h0=>?_) (fun h0=>?_)
  ·simp only [go_sem,s3,h0]
   refine hK _ _ ?_
   simp only [go_sem,s3,h0,Bool.true_or]
   first | exact ⟨rfl,rfl⟩|trivial|rfl|trace_state
  ·simp only [go_sem,s3,h0]
   refine b0k (fun h1=>?_) (fun h1=>?_)
   ·simp only [go_sem,s3,h0,h1]
    refine hK _ _ ?_
    simp only [go_sem,s3,h0,h1,Bool.true_or,Bool.false_or]
    first | exact ⟨rfl,rfl⟩|trivial|rfl|trace_state
   ·simp only [go_sem,s3,h0,h1]
    refine hK _ _ ?_
    simp only [go_sem,s3,h0,h1,Bool.true_or,Bool.false_or]
    first | exact ⟨rfl,rfl⟩|trivial|rfl|trace_state
 rintro t h' ⟨r35,r3,r6,r11,r8,hnx,o8⟩
 clear s0 s1 s2 s3
 rw [b9z]
 refine K7d (by simp only [go_sem,r35]; rfl) (fun hb=>?_) (fun hb=>?_)
 ·rw [if_pos hb] at hr
  subst hr
  refine b0b fun K hK=>?_
  simp only [go_sem,r8,o8]
  refine hK _ _ ?_
  clear hK K
  simp only [b0x,b1p,b0y]
  exact p2s (id:=h.nx) (m:=4) (cs:=poC K47) (u:=I 1) (by simp only [go_sem,r8]) (by simp only [go_sem]; rfl) rfl (by simp only [go_sem]) (.refl _ (.agg _ (K35 _))) (.refl _ (b0e _))
 rw [if_neg (by rw [hb]; exact Bool.false_ne_true)] at hr
 simp only [Bool.or_eq_false_iff,Bool.not_eq_false',decide_eq_false_iff_not] at hb
 obtain ⟨⟨hf1,hm1⟩,hm2⟩:=hb
 simp only [b0s,b0f]
 refine b0b fun K hK=>?_
 simp only [go_sem,r3,r6,r11]
 refine b01 (km s e p m (L4q hok) (L4p hok) hf1 (by omega)) ?_
 simp only [go_sem,r3,r6,r11,hnx]
 refine hK _ _ ?_
 clear hK K
 refine b0v ?_
 refine b0b fun K hK=>?_
 simp only [go_sem]
 refine hK _ _ ?_
 clear hK K
 rw [b9z]
 refine K7d (x:=!(K11 s e p m).2) (by simp only [go_sem]) (fun hb=>?_) (fun hb=>?_)
 ·rw [Bool.not_eq_true'] at hb
  rw [if_neg (by rw [hb]; exact Bool.false_ne_true)] at hr
  subst hr
  refine b0b fun K hK=>?_
  simp only [go_sem,r8,o8,hnx]
  refine hK _ _ ?_
  clear hK K
  simp only [b0x,b1p,b0y]
  exact p2s (id:=h.nx) (m:=4) (cs:=poC K47) (u:=I 3) (by simp only [go_sem,r8]) (by simp only [go_sem]; rfl) rfl (by simp only [go_sem]) (.refl _ (.agg _ (K35 _))) (.refl _ (b0e _))
 ·rw [Bool.not_eq_false'] at hb
  rw [if_pos hb] at hr
  subst hr
  simp only [b0s,b0f]
  refine b0b fun K hK=>?_
  simp only [go_sem,r8,o8,hnx]
  refine hK _ _ ?_
  clear hK K
  simp only [b0x,b1p,b0y]
  exact p2s (id:=h.nx) (m:=4) (cs:=poC (K11 s e p m).1) (u:=I 0) (by simp only [go_sem,r8]) (by simp only [go_sem]) rfl (by simp only [go_sem]) (.refl _ (.agg _ (K35 _))) (.refl _ (b0e _))
end Go.Nw.YM
namespace Go.Nw
theorem M01 {α:Type} [DecidableEq α] {st:α->Nat->Option α} {z:α} {i:Nat} {s:List (α × List Nat)} (h:Found st z i 0 s) {e:α × List Nat} (he:s[i]?=some e):H85 st z e.1 e.2:=by
 have key:∀ (n:Nat) (l:List Nat) (q:α),l.length=n->gos st z l=some q->(∃ b∈s,b.1=q/\sle b.2 l)\/sle e.2 l:=by
  intro n
  induction n with
  | zero =>
   intro l q hl hg
   have : l=[]:=List.eq_nil_of_length_eq_zero hl
   subst this
   cases hg
   exact .inl ⟨(z,[]),mG9 h.z0,rfl,J1a _⟩
  | succ n ih =>
   intro l q hl hg
   obtain ⟨l',x,rfl⟩:∃ l' x,l=l'++[x]:=by
    have hne:l≠[]:=fun e=>by subst e; simp at hl
    exact ⟨l.dropLast,l.getLast hne,(List.dropLast_concat_getLast hne).symm⟩
   have hlong:sle l' (l'++[x]):=.inr (.inl (by simp))
   rw [J1n] at hg
   obtain ⟨p,h1,h2⟩:=bE9.1 hg
   rcases ih l' p (by simpa using hl) h1 with ⟨a,ha,rfl,hle⟩|hle
   ·obtain ⟨j,hj,rfl⟩:=List.getElem_of_mem ha
    by_cases hji:j<i
    ·obtain ⟨b,hb,e,hle2⟩:=h.c j x _ q (.inl hji) (gG9 hj) h2
     exact .inl ⟨b,hb,e,J4q hle2 (J4p hle x)⟩
    ·refine .inr (J4q ?_ (J4q hle hlong))
     by_cases hij:i=j
     ·subst hij
      rw [gG9 hj] at he
      cases he
      exact J1a _
     ·exact .inr (h.s0 i j _ _ (by omega) he (gG9 hj))
   ·exact .inr (J4q hle hlong)
 refine ⟨h.g e (mG9 he),fun r hr=>?_⟩
 rcases key r.length r e.1 rfl hr with ⟨b,hb,e1,hle⟩|hle
 ·obtain ⟨j,hj,rfl⟩:=List.getElem_of_mem hb
  have : j=i:=h.n j i _ _ (gG9 hj) he e1
  subst this
  rw [gG9 hj] at he
  cases he
  exact hle
 ·exact hle
end Go.Nw
namespace Go.Nw.YM
open Go.Nw.Tp5
theorem L7o:∀ (n:Nat) (l:List Nat),l.Nodup->(∀ x∈l,x<n)->l.length<=n
 | 0,[],_,_=>Nat.le_refl _
 | 0,a :: l,_,h=>by have:=h a (List.mem_cons_self ..); omega
 | n+1,l,hn,h=>by
  by_cases hm:n∈l
  ·have h1:=L7o n (l.erase n) (hn.erase n) (fun x hx=>by
    have h2:=h x (List.mem_of_mem_erase hx)
    have h3:x≠n:=fun e=>by subst e; exact (List.Nodup.not_mem_erase hn) hx
    omega)
   have h4:=List.length_erase_of_mem hm
   have h5:0<l.length:=List.length_pos_of_mem hm
   omega
  ·have := L7o n l hn (fun x hx=>by
    have h2:=h x hx
    have h3:x≠n:=fun e=>hm (e ▸ hx)
    omega)
   omega
theorem L85 {α β:Type} {f:α->β}:∀ {l:List α},l.Nodup->(∀ x∈l,∀ y∈l,f x=f y->x=y)->(l.map f).Nodup
 | [],_,_=>List.nodup_nil
 | a :: l,hn,h=>by
  rw [List.map_cons,List.nodup_cons]
  rw [List.nodup_cons] at hn
  refine ⟨fun hm=>?_,L85 hn.2 fun x hx y hy e=>h x (List.mem_cons_of_mem _ hx) y (List.mem_cons_of_mem _ hy) e⟩
  obtain ⟨y,hy,e⟩:=List.mem_map.1 hm
  have := h y (List.mem_cons_of_mem _ hy) a (List.mem_cons_self ..) e
  subst this
  exact hn.1 hy
def InP (p:Pose):Prop:=(0<=p.Turn/\p.Turn<6)/\(0<=p.At.1/\p.At.1<8)/\(0<=p.At.2.1/\p.At.2.1<8)/\(0<=p.At.2.2/\p.At.2.2<8)
theorem M2m {l:List Pose} (hn:l.Nodup) (hi:∀ p∈l,InP p):l.length<=3072:=by
 have h1:=L7o 3072 (l.map fun p=>(((p.At.1 * 8+p.At.2.1) * 8+p.At.2.2) * 6+p.Turn).toNat) (L85 hn fun p hp q hq e=>by
  have h1:=hi p hp
  have h2:=hi q hq
  obtain ⟨⟨a1,a2,a3⟩,a4⟩:=p
  obtain ⟨⟨b1,b2,b3⟩,b4⟩:=q
  unfold InP at h1 h2
  simp only at h1 h2 e
  have e1:a1=b1:=by omega
  have e2:a2=b2:=by omega
  have e3:a3=b3:=by omega
  have e4:a4=b4:=by omega
  subst e1 e2 e3 e4
  rfl) fun x hx=>by
   obtain ⟨p,hp,rfl⟩:=List.mem_map.1 hx
   have h1:=hi p hp
   unfold InP at h1
   omega
 simpa using h1
theorem M2b (a b:V3):(a.1<=(K78 a b).1/\a.2.1<=(K78 a b).2.1)/\a.2.2<=(K78 a b).2.2:=by
 unfold K78
 refine ⟨⟨?_,?_⟩,?_⟩ <;> (simp only; split <;> omega)
theorem M04 {s:Shaft} {a m n:V3} (h:y50 s a m=true) (h1:n.1<=m.1) (h2:n.2.1<=m.2.1) (h3:n.2.2<=m.2.2):y50 s a n=true:=by
 unfold y50 inB at h ⊢
 simp only [Bool.and_eq_true,decide_eq_true_eq,Bool.not_eq_true'] at h ⊢
 obtain ⟨⟨⟨a1,a2⟩,a3⟩,hw⟩:=h
 refine ⟨⟨⟨by omega,by omega⟩,by omega⟩,?_⟩
 rw [<- Bool.not_eq_true] at hw ⊢
 intro hn
 apply hw
 unfold inW at hn ⊢
 obtain ⟨w,hm,hw2⟩:=List.any_eq_true.1 hn
 refine List.any_eq_true.2 ⟨w,hm,?_⟩
 simp only [Bool.and_eq_true,decide_eq_true_eq] at hw2 ⊢
 omega
theorem L83 {s:Shaft} {e:V3} {p:Pose} {m:Int} (hz:b80 s.Size) (he:b80 e) (hp:l64 s e p=true) (hm:0<=m/\m<9) (h:(K11 s e p m).2=true):l64 s e (K11 s e p m).1=true:=by
 unfold K11 at h ⊢
 by_cases h6:m<6
 ·rw [if_pos h6] at h ⊢; exact h
 ·rw [if_neg h6] at h ⊢
  obtain ⟨ht,_⟩:=L43 hz he hp
  obtain ⟨_,hu⟩:=L9b ht (m:=m) (by omega)
  obtain ⟨⟨g1,g2⟩,g3⟩:=M2b (x61 e (L4e p.Turn m)) (x61 e p.Turn)
  unfold l64
  rw [decide_eq_true (show 0<=L4e p.Turn m/\L4e p.Turn m<6 from hu),Bool.true_and]
  exact M04 h g1 g2 g3
structure Came (z:Pose) (L:List (Pose × List Nat)) (M:List (Pose × (Pose × Int))):Prop where
 ln : M.length=L.length
 at_ : ∀ (j:Nat) (p:Pose) (w:List Nat),L[j]?=some (p,w)->∃ f m,M[j]?=some (p,(f,m))/\(w=[]\/∃ (w':List Nat) (y j':Nat),j'<j/\L[j']?=some (f,w')/\w=w'++[y]/\y<9/\m=y)
theorem L6z {z:Pose} {L:List (Pose × List Nat)} {M:List (Pose × (Pose × Int))} (h:Came z L M):M.map (·.1)=L.map (·.1):=by
 apply List.ext_getElem?
 intro j
 rw [List.getElem?_map,List.getElem?_map]
 by_cases hj:j<L.length
 ·obtain ⟨f,m,h1,_⟩:=h.at_ j L[j].1 L[j].2 (gG9 hj)
  rw [h1,gG9 hj]
  rfl
 ·rw [List.getElem?_eq_none (by have:=h.ln; omega),List.getElem?_eq_none (by omega)]
  rfl
theorem M0h (z:Pose):Came z [(z,[])] [(z,(z,-1))] where
 ln := rfl
 at_ := fun j p w h=>by
  have hj:=(gS9.1 h).1
  have : j=0:=by simp at hj; omega
  subst this
  cases h
  exact ⟨z,-1,rfl,.inl rfl⟩
theorem M0g {z:Pose} {L:List (Pose × List Nat)} {M:List (Pose × (Pose × Int))} (h:Came z L M) {i y:Nat} {a:Pose × List Nat} (ha:L[i]?=some a) (hy:y<9) (q:Pose):Came z (L++[(q,a.2++[y])]) (M++[(q,(a.1,(y:Int)))]) where
 ln := by simp [h.ln]
 at_ := fun j p w hj=>by
  by_cases hl:j<L.length
  ·rw [List.getElem?_append_left hl] at hj
   obtain ⟨f,m,h1,h2⟩:=h.at_ j p w hj
   refine ⟨f,m,by rw [List.getElem?_append_left (by rw [h.ln]; exact hl)]; exact h1,?_⟩
   rcases h2 with h2|⟨w',y,j',h3,h4,h5⟩
   ·exact .inl h2
   ·exact .inr ⟨w',y,j',h3,by rw [List.getElem?_append_left (by omega)]; exact h4,h5⟩
  ·have hlt:=(gS9.1 hj).1
   simp at hlt
   have e:j=L.length:=by omega
   subst e
   simp only [List.getElem?_concat_length,iE9,Prod.mk.injEq] at hj
   obtain ⟨rfl,rfl⟩:=hj
   refine ⟨a.1,y,by rw [<- h.ln]; simp,.inr ⟨a.2,y,i,(gS9.1 ha).1,?_,rfl,hy,rfl⟩⟩
   rw [List.getElem?_append_left (gS9.1 ha).1]
   exact ha
theorem L8g {z:Pose} {L:List (Pose × List Nat)} {M:List (Pose × (Pose × Int))} (h:Came z L M):∀ (j:Nat) (p:Pose) (w:List Nat),L[j]?=some (p,w)->w.length<=j:=by
 intro j
 induction j using Nat.strongRecOn with
 | ind j ih =>
  intro p w hj
  obtain ⟨f,m,_,h2⟩:=h.at_ j p w hj
  rcases h2 with rfl|⟨w',y,j',h3,h4,rfl,_⟩
  ·simp
  ·have := ih j' h3 f w' h4
   simp
   omega
def pz (L:List (Pose × List Nat)):List Pose:=L.map (·.1)
theorem L6l {s:Shaft} {e:V3} (p:Pose) (y:Nat) (hy:9<=y):stS s e p y=none:=by
 unfold stS
 rw [if_neg fun h=>by omega]
theorem M02 {st:Pose->Nat->Option Pose} {z:Pose} {i x:Nat} {L:List (Pose × List Nat)} (fd:Found st z i x L):(L.map (·.1)).Nodup:=by
 rw [List.Nodup,List.pairwise_iff_getElem]
 intro j k hj hk hjk heq
 rw [List.length_map] at hj hk
 rw [List.getElem_map,List.getElem_map] at heq
 have := fd.n j k _ _ (gG9 hj) (gG9 hk) heq
 omega
def nI (w:List Nat):List Int:=w.map fun n:Nat=>(n:Int)
theorem L8h {s:Shaft} {e:V3} {a b:Pose} {w:List Nat} (h:H85 (stS s e) a b w):K62 s e a b=(nI w,0):=by
 unfold K62
 rw [dif_pos ⟨w,h⟩]
 rw [M13 (stS s e) (Classical.choose_spec (⟨w,h⟩:∃ l,H85 (stS s e) a b l)) h]
 rfl
theorem L8i {s:Shaft} {e:V3} {a b:Pose} (h:∀ w,¬ H85 (stS s e) a b w):K62 s e a b=([],3):=by
 unfold K62
 rw [dif_neg fun ⟨w,hw⟩=>h w hw]
theorem M0m (s:Shaft) (e:V3) (a b:Pose):(K62 s e a b).2=0\/K62 s e a b=([],3):=by
 unfold K62
 split
 ·exact .inl rfl
 ·exact .inr rfl
end Go.Nw.YM
namespace Go.Nw.YM
open Go.Nw.Tp5
set_option maxHeartbeats 4000000
variable {O:Orac} [MapsOk O]
def kcP (p:Pose):List Int:=[p.At.1,p.At.2.1,p.At.2.2,p.Turn]
def K66 (v:Pose × Int):Value:=.agg #[.int .i64 v.1.At.1,.int .i64 v.1.At.2.1,.int .i64 v.1.At.2.2,.int .i64 v.1.Turn,.int .i64 v.2]
@[go_sem] def L5z (v:Pose × Int):List AV:=[I v.1.At.1,I v.1.At.2.1,I v.1.At.2.2,I v.1.Turn,I v.2]
theorem L48:∀ a b,b3o false (vks kcP a) (vks kcP b)=some (decide (a=b)):=j7d (n:=4) (fun _=>rfl) fun a b h=>by
 obtain ⟨⟨a1,a2,a3⟩,a4⟩:=a; obtain ⟨⟨b1,b2,b3⟩,b4⟩:=b
 simp only [kcP,List.cons.injEq,and_true] at h
 obtain ⟨rfl,rfl,rfl,rfl⟩:=h; rfl
theorem L6e (v:Pose × Int):nv1 (.v (K66 v)) = .agg (L5z v):=rfl
theorem L8t {κ ν:Type} [DecidableEq κ] {fk:κ->Value} {fv:ν->Value} {fc:ν->List AV} {h:Heap} {k:AV->Heap->Prop} {f:String} {id:Nat} {key:AV} {n:Int} {l:List (κ × ν)} {x:κ} {z:ν} (hm:b2k f=some (.look false true)) (hkk:∀ a b,b3o false (fk a) (fk b)=some (decide (a=b))) (hn:∀ a,nv1 (.v (fv a)) = .agg (fc a)) (hv:b6j n key=some (fk x)) (ho:h.ob id=some (0,l.map (eM fk fv)))
  (hk : k (.tup [.agg (fc (b2w l x z)),B (b6m l x)]) h):@s3q O f [.mp id,key,.v (fv z),I n] h ⟨k⟩:=by
 refine b79 hm (r:=.tup [.agg (fc (b2w l x z)),B (b6m l x)]) (h':=h) ?_ hk
 simp only [nv,hn,b2i,ho,bS9,hv,if_true,c7t hkk,Option.map_some,g1l]
theorem L8u {κ ν:Type} [DecidableEq κ] {fk:κ->Value} {fv:ν->Value} {fc:ν->List AV} {h:Heap} {k:AV->Heap->Prop} {f:String} {id:Nat} {key:AV} {n:Int} {l:List (κ × ν)} {x:κ} {z:ν} (hm:b2k f=some (.look false false)) (hkk:∀ a b,b3o false (fk a) (fk b)=some (decide (a=b))) (hn:∀ a,nv1 (.v (fv a)) = .agg (fc a)) (hv:b6j n key=some (fk x)) (ho:h.ob id=some (0,l.map (eM fk fv)))
  (hk : k (.agg (fc (b2w l x z))) h):@s3q O f [.mp id,key,.v (fv z),I n] h ⟨k⟩:=by
 refine b79 hm (r:=.agg (fc (b2w l x z))) (h':=h) ?_ hk
 simp only [nv,hn,b2i,ho,bS9,hv,if_true,c7t hkk,Option.map_some,g1l,fT9,if_false]
structure Srch (s:Shaft) (e:V3) (a b:Pose) (i x:Nat) (L:List (Pose × List Nat)) (M:List (Pose × (Pose × Int))) (bm bq:Nat) (t:Slots) (h:Heap):Prop where
 fd : Found (stS s e) a i x L
 cm : Came a L M
 ft : ∀ p∈pz L,l64 s e p=true
 s0 : t 0 = .fp (crC s e) 0
 s4 : t 4 = .fp (poC a) 0
 s5 : t 5 = .fp (poC b) 0
 s8 : t 8 = .mp bm
 s9 : t 9 = .rs bq 0 (pz L).length
 s10 : t 10=I i
 om : h.ob bm=some (0,List.map (eM (vks kcP) K66) M)
 oq : h.ob bq=some (4,List.map r61 (pz L))
 lm : bm<h.nx
 lq : bq<h.nx
 ne : ¬ bm=bq
theorem L6k {s:Shaft} {e:V3} {a b:Pose} {i x:Nat} {L:List (Pose × List Nat)} {M:List (Pose × (Pose × Int))} {bm bq:Nat} {t:Slots} {h:Heap} (hz:b80 s.Size) (he:b80 e) (S:Srch s e a b i x L M bm bq t h):L.length<=3072:=by
 have h1:(pz L).length<=3072:=M2m (by
  unfold pz
  rw [List.Nodup,List.pairwise_iff_getElem]
  intro j k hj hk hjk heq
  rw [List.length_map] at hj hk
  rw [List.getElem_map,List.getElem_map] at heq
  have := S.fd.n j k _ _ (gG9 hj) (gG9 hk) heq
  omega) fun p hp=>L43 hz he (S.ft p hp)
 unfold pz at h1
 simpa using h1
theorem M0j (s:Shaft) (e:V3) (a b:Pose) (hz:b80 s.Size) (he:b80 e) (km:L4z O) {i x bm bq:Nat} {L:List (Pose × List Nat)} {M:List (Pose × (Pose × Int))} {t:Slots} {h:Heap} {Q:XExit->Slots->Heap->Prop}
  (S : Srch s e a b i x L M bm bq t h) (hi:i<L.length) (hx:x<9) (r41:t 41=I x)
  (hQ : ∀ (t:Slots) (h:Heap) (L:List (Pose × List Nat)) (M:List (Pose × (Pose × Int))) (bq:Nat),Srch s e a b i (x+1) L M bm bq t h->i<L.length->t 41=I x->Q .normal t h) :
  cw O (.block 3 (.seq (.reg L9g) (.seq (.reg L9h) (.seq (.reg L9i) (.seq (.reg L9d) (.cond (.t 64) (.seq (.reg L9e) (.reg L9f)) .skip)))))) Q t h:=by
 have few:=L6k hz he S
 obtain ⟨fd,cm,ft,s0,s4,s5,s8,s9,s10,om,oq,lm,lq,ne⟩:=S
 obtain ⟨cur,hcur⟩:∃ c,L[i]?=some c:=⟨L[i],by simp [hi]⟩
 have hg:get (pz L) (i:Int)=some cur.1:=by unfold get pz; simp [hcur]
 have hg1:=b06 hg
 have hg0:=b05 hg
 have hft:=ft cur.1 (mG9 (b8j hg))
 rw [b0u]
 refine b0b fun K hK=>?_
 simp only [go_sem,r41]
 refine hK _ _ ?_
 clear hK K
 refine b0b fun K hK=>?_
 simp only [go_sem,s0,s9,s10,oq,b08 hg,b3n hg,hg0,hg1]
 refine b01 (km s e cur.1 (x:Int) hz he hft (by omega)) ?_
 simp only [go_sem,s0,s9,s10,oq,lm,lq,ne]
 refine hK _ _ ?_
 clear hK K
 generalize hmv:K11 s e cur.1 (x:Int)=mv
 obtain ⟨q,ok⟩:=mv
 refine b0b fun K hK=>?_
 simp only [go_sem,s8]
 refine L8t (fk:=vks kcP) (fv:=K66) (fc:=L5z) (l:=M) (x:=q) (z:=(K47,0)) j8c L48 L6e rfl ?_ ?_
 ·simp only [go_sem,om,lm]
 simp only [go_sem,s8]
 refine hK _ _ ?_
 clear hK K
 have hst:stS s e cur.1 x=if ok=true then some q else none:=by unfold stS; rw [hmv]; simp only [hx,true_and]
 have same:look (stS s e) L cur x=L->∀ t h,t 0 = .fp (crC s e) 0->t 4 = .fp (poC a) 0->t 5 = .fp (poC b) 0->t 8 = .mp bm->t 9 = .rs bq 0 (pz L).length->t 10=I i->t 41=I x->h.ob bm=some (0,List.map (eM (vks kcP) K66) M)->h.ob bq=some (4,List.map r61 (pz L))->bm<h.nx->bq<h.nx->Q .normal t h:=by
  intro hl t h s0 s4 s5 s8 s9 s10 r41 om oq lm lq
  have hf:=(J3c fd hcur).1
  rw [hl] at hf
  exact hQ t h L M bq ⟨hf,cm,ft,s0,s4,s5,s8,s9,s10,om,oq,lm,lq,ne⟩ hi r41
 cases ok with
 | false =>
  refine b0b fun K hK=>?_
  simp only [go_sem]
  refine hK _ _ ?_
  clear hK K
  refine K7d (x:=false) (by simp only [go_sem]) (fun hb=>by cases hb) (fun _=>?_)
  simp only [b0s,b02]
  exact same (by unfold look; rw [hst]; rfl) _ _ (by simp only [go_sem,s0]) (by simp only [go_sem,s4]) (by simp only [go_sem,s5]) (by simp only [go_sem,s8]) (by simp only [go_sem,s9]) (by simp only [go_sem,s10]) (by simp only [go_sem,r41]) (by simp only [go_sem,om,lm]) (by simp only [go_sem,oq,lq]) (by simp only [go_sem,lm]) (by simp only [go_sem,lq])
 | true =>
  simp only [if_true] at hst
  have hmem:b6m M q=L.any (fun e=>decide (e.1=q)):=by
   apply Bool.eq_iff_iff.2
   rw [j78,L6z cm,List.any_eq_true,List.mem_map]
   constructor
   ·rintro ⟨p,h1,h2⟩; exact ⟨p,h1,by simpa using h2⟩
   ·rintro ⟨p,h1,h2⟩; exact ⟨p,h1,by simpa using h2⟩
  cases hk:b6m M q with
  | true =>
   refine b0b fun K hK=>?_
   simp only [go_sem,hk]
   refine hK _ _ ?_
   clear hK K
   refine K7d (x:=false) (by simp only [go_sem]) (fun hb=>by cases hb) (fun _=>?_)
   simp only [b0s,b02]
   exact same (by unfold look; rw [hst]; simp only [<- hmem,hk,if_true]) _ _ (by simp only [go_sem,s0]) (by simp only [go_sem,s4]) (by simp only [go_sem,s5]) (by simp only [go_sem,s8]) (by simp only [go_sem,s9]) (by simp only [go_sem,s10]) (by simp only [go_sem,r41]) (by simp only [go_sem,om,lm]) (by simp only [go_sem,oq,lq]) (by simp only [go_sem,lm]) (by simp only [go_sem,lq])
  | false =>
   have hl:look (stS s e) L cur x=L++[(q,cur.2++[x])]:=by unfold look; rw [hst]; simp only [<- hmem,hk,fT9,if_false]
   have hnew:q ∉ M.map (·.1):=fun hm=>by rw [j78.2 hm] at hk; cases hk
   refine b0b fun K hK=>?_
   simp only [go_sem,hk]
   refine hK _ _ ?_
   clear hK K
   refine K7d (x:=true) (by simp only [go_sem]) (fun _=>?_) (fun hb=>by cases hb)
   refine b0b fun K hK=>?_
   simp only [go_sem,s8,s9,s10,oq,lq,b08 hg,b3n hg,hg0,hg1]
   refine L7a (fk:=vks kcP) (fv:=K66) (l:=M) (x:=q) (v:=(cur.1,(x:Int))) g1t L48 rfl rfl ?_ ?_
   ·simp only [go_sem,om,lm]
   rw [g1w hnew]
   simp only [go_sem,s8]
   refine hK _ _ ?_
   clear hK K
   have hap:ap 32 (pz L) [q]=some (pz L++[q]):=b9k (by unfold pz; simp only [List.length_map,List.length_cons,List.length_nil]; omega)
   refine b03 fun K hK=>?_
   simp only [go_sem,s9,lm,lq,ne,b1z ne]
   refine b3a (f:=r61) (l:=pz L) (m:=[q]) ?_ ?_ ?_ ?_ hap ?_
   ·exact b2v (by simp only [go_sem,oq,lq,lm,ne,b1z ne]) (by first|rfl|simp only [go_sem,List.length_map]) (by simp only [go_sem,lq])
   ·exact (b4t (by simp only [go_sem]) (by simp only [go_sem]))
   ·exact (b4r (by first|exact b1w|exact b1y (by first|omega|(simp only [go_sem,nxs] <;> omega))))
   ·exact (fun _=>by simp)
   simp only [go_sem,s9,lm,lq,ne,b1z ne]
   refine hK _ _ ?_
   clear hK K
   simp only [b02]
   have hf:=(J3c fd hcur).1
   rw [hl] at hf
   have hpz:pz (L++[(q,cur.2++[x])])=pz L++[q]:=by unfold pz; simp
   refine hQ _ _ (L++[(q,cur.2++[x])]) (M++[(q,(cur.1,(x:Int)))]) (nxs (nxs (nxs h.nx))) ⟨hf,M0g cm hcur hx q,?_,?_,?_,?_,?_,?_,?_,?_,?_,?_,?_,?_⟩ (by simp; omega) ?_
   ·intro p hp
    rw [hpz] at hp
    rcases List.mem_append.1 hp with hp|hp
    ·exact ft p hp
    ·rw [List.mem_singleton.1 hp]
     have := L83 (m:=(x:Int)) hz he hft (by omega) (by rw [hmv])
     rw [hmv] at this
     exact this
   ·simp only [go_sem,s0]
   ·simp only [go_sem,s4]
   ·simp only [go_sem,s5]
   ·simp only [go_sem,s8]
   ·rw [hpz]
    simp only [go_sem]
   ·simp only [go_sem,s10]
   ·simp only [go_sem,om,lm,lq,ne,b1z ne]
   ·rw [hpz]
    simp only [go_sem,oq,lm,lq,ne,b1z ne]
   ·simp only [go_sem,lm]
   ·simp only [go_sem]
   ·simp only [nxs]; omega
   ·simp only [go_sem,r41]
theorem Srch.to {s:Shaft} {e:V3} {a b:Pose} {i x:Nat} {L:List (Pose × List Nat)} {M:List (Pose × (Pose × Int))} {bm bq:Nat} {t t':Slots} {h:Heap} (S:Srch s e a b i x L M bm bq t h) (h0:t' 0=t 0) (h4:t' 4=t 4) (h5:t' 5=t 5) (h8:t' 8=t 8) (h9:t' 9=t 9) (h10:t' 10=t 10):Srch s e a b i x L M bm bq t' h :=
 ⟨S.fd,S.cm,S.ft,h0.trans S.s0,h4.trans S.s4,h5.trans S.s5,h8.trans S.s8,h9.trans S.s9,h10.trans S.s10,S.om,S.oq,S.lm,S.lq,S.ne⟩
theorem M0k (s:Shaft) (e:V3) (a b:Pose) (hz:b80 s.Size) (he:b80 e) (km:L4z O) {i bm bq:Nat} {L:List (Pose × List Nat)} {M:List (Pose × (Pose × Int))} {t:Slots} {h:Heap} {Q:XExit->Slots->Heap->Prop}
  (S : Srch s e a b i 0 L M bm bq t h) (hi:i<L.length) (r41:t 41=I 0)
  (hQ : ∀ (t:Slots) (h:Heap) (L:List (Pose × List Nat)) (M:List (Pose × (Pose × Int))) (bq:Nat),Srch s e a b i 9 L M bm bq t h->i<L.length->Q .normal t h) :
  cw O (.block 2 (.loop L72)) Q t h:=by
 rw [b0u]
 refine c2k (fun k t h=>∃ (x:Nat) (L:List (Pose × List Nat)) (M:List (Pose × (Pose × Int))) (bq:Nat),x+k=9/\i<L.length/\t 41=I x/\Srch s e a b i x L M bm bq t h) 9 ?_ ?_
 ·exact ⟨0,L,M,bq,rfl,hi,r41,S⟩
 clear S r41 hi t h
 rintro k t h ⟨x,L,M,bq,hxk,hi,r41,S⟩
 simp only [L72]
 refine b0b fun K hK=>?_
 simp only [go_sem,r41]
 refine hK _ _ ?_
 clear hK K
 rw [b9z]
 refine K7d (x:=decide ((x:Int)<9)) (by simp only [go_sem]) (fun hb=>?_) (fun hb=>?_)
 ·have hx:x<9:=by have:=of_decide_eq_true hb; omega
  simp only [b0s,b0f]
  rw [b9z]
  refine M0j s e a b hz he km (S.to (by simp only [go_sem]) (by simp only [go_sem]) (by simp only [go_sem]) (by simp only [go_sem]) (by simp only [go_sem]) (by simp only [go_sem])) hi hx (by simp only [go_sem,r41]) ?_
  intro t h L M bq S hi r41
  simp only [b0f]
  refine b03 fun K hK=>?_
  simp only [go_sem,r41]
  refine hK _ _ ?_
  clear hK K
  simp only [b0f]
  refine ⟨k - 1,by omega,x+1,L,M,bq,by omega,hi,?_,S.to (by simp only [go_sem]) (by simp only [go_sem]) (by simp only [go_sem]) (by simp only [go_sem]) (by simp only [go_sem]) (by simp only [go_sem])⟩
  simp only [go_sem]
  exact congrArg I ((b3t (by omega) (by omega)).trans rfl)
 ·have hx:x=9:=by have:=of_decide_eq_false hb; omega
  subst hx
  simp only [b09,b1b,b1a]
  exact hQ _ _ L M bq (S.to (by simp only [go_sem]) (by simp only [go_sem]) (by simp only [go_sem]) (by simp only [go_sem]) (by simp only [go_sem]) (by simp only [go_sem])) hi
theorem M0l (s:Shaft) (e:V3) (a b:Pose) (hz:b80 s.Size) (he:b80 e) (km:L4z O) {bm bq:Nat} {L:List (Pose × List Nat)} {M:List (Pose × (Pose × Int))} {t:Slots} {h:Heap} {Q:XExit->Slots->Heap->Prop}
  (S : Srch s e a b 0 0 L M bm bq t h)
  (hQ : ∀ (t:Slots) (h:Heap) (i:Nat) (L:List (Pose × List Nat)) (M:List (Pose × (Pose × Int))) (bq:Nat),Srch s e a b i 0 L M bm bq t h->(L.length<=i\/∃ c,L[i]?=some c/\c.1=b)->Q .normal t h) :
  cw O (.block 0 (.loop L73)) Q t h:=by
 rw [b0u]
 refine c2k (fun k t h=>∃ (i:Nat) (L:List (Pose × List Nat)) (M:List (Pose × (Pose × Int))) (bq:Nat),i+k=3073/\i<=L.length/\Srch s e a b i 0 L M bm bq t h) 3073 ?_ ?_
 ·exact ⟨0,L,M,bq,rfl,by omega,S⟩
 clear S t h
 rintro k t h ⟨i,L,M,bq,hik,hil,S⟩
 have few:=L6k hz he S
 have hpl:(pz L).length=L.length:=by unfold pz; simp
 simp only [L73]
 rw [b9z]
 refine b0i fun K1 hK1=>?_
 by_cases hi:i<L.length
 ·obtain ⟨cur,hcur⟩:∃ c,L[i]?=some c:=⟨L[i],by simp [hi]⟩
  have hg:get (pz L) (i:Int)=some cur.1:=by unfold get pz; simp [hcur]
  have hg1:=b06 hg
  have hg0:=b05 hg
  refine b03 fun K hK=>?_
  simp only [go_sem,S.s9,S.s10]
  refine b0k (fun h0=>?_) (fun h0=>?_)
  ·simp only [go_sem,S.s9,S.s10,S.s5,S.oq,S.lq,b08 hg,b3n hg,hg0,hg1,h0]
   refine hK _ _ ?_
   clear hK K
   simp only [b0f]
   refine hK1 _ _ ?_
   refine K7d (x:=!decide (cur.1=b)) (by simp only [go_sem]) (fun hb=>?_) (fun hb=>?_)
   ·simp only [b0s,b0f]
    refine b0i fun K2 hK2=>?_
    rw [b0u]
    refine b0b fun K hK=>?_
    simp only [go_sem]
    refine hK _ _ ?_
    clear hK K
    refine M0k s e a b hz he km (S.to (by simp only [go_sem]) (by simp only [go_sem]) (by simp only [go_sem]) (by simp only [go_sem]) (by simp only [go_sem]) (by simp only [go_sem])) hi (by simp only [go_sem]) ?_
    intro t h L M bq S hi
    simp only [b02,b0f]
    refine hK2 _ _ ?_
    refine b03 fun K hK=>?_
    simp only [go_sem,S.s10]
    refine hK _ _ ?_
    clear hK K
    simp only [b0f]
    have few:=L6k hz he S
    obtain ⟨fd,cm,ft,s0,s4,s5,s8,s9,s10,om,oq,lm,lq,ne⟩:=S
    refine ⟨k - 1,by omega,i+1,L,M,bq,by omega,by omega,J3d fd fun p y hy=>L6l p y hy,cm,ft,by simp only [go_sem,s0],by simp only [go_sem,s4],by simp only [go_sem,s5],by simp only [go_sem,s8],by simp only [go_sem,s9],?_,om,oq,lm,lq,ne⟩
    simp only [go_sem]
    exact congrArg I ((b3t (by omega) (by omega)).trans rfl)
   ·simp only [b09,b1b,b1a]
    exact hQ _ _ i L M bq (S.to (by simp only [go_sem]) (by simp only [go_sem]) (by simp only [go_sem]) (by simp only [go_sem]) (by simp only [go_sem]) (by simp only [go_sem])) (.inr ⟨cur,hcur,by simpa using hb⟩)
  ·exact absurd hg1 (of_decide_eq_false h0)
 ·refine b03 fun K hK=>?_
  simp only [go_sem,S.s9,S.s10]
  refine b0k (fun h0=>?_) (fun h0=>?_)
  ·exact absurd (of_decide_eq_true h0) (by rw [hpl]; omega)
  ·simp only [go_sem,S.s9,S.s10,S.s5,h0]
   refine hK _ _ ?_
   clear hK K
   simp only [b0f]
   refine hK1 _ _ ?_
   refine K7d (x:=false) (by simp only [go_sem]) (fun hb=>by cases hb) (fun hb=>?_)
   simp only [b09,b1b,b1a]
   exact hQ _ _ i L M bq (S.to (by simp only [go_sem]) (by simp only [go_sem]) (by simp only [go_sem]) (by simp only [go_sem]) (by simp only [go_sem]) (by simp only [go_sem])) (.inl (by omega))
end Go.Nw.YM
namespace Go.Nw.YM
open Go.Nw.Tp5
set_option maxHeartbeats 4000000
variable {O:Orac} [MapsOk O]
theorem M0i (s:Shaft) (e:V3) (a b:Pose) {i x bm:Nat} {L:List (Pose × List Nat)} {M:List (Pose × (Pose × Int))} {W:List Nat} {t:Slots} {h:Heap} {Q:XExit->Slots->Heap->Prop}
  (fd : Found (stS s e) a i x L) (cm:Came a L M) (few:L.length<=3072) (hb:(b,W)∈L) {b19:Nat}
  (s4 : t 4 = .fp (poC a) 0) (s8:t 8 = .mp bm) (s18:t 18 = .v (.slice none 0 0)) (s19:t 19 = .rp b19 0 0) (om:h.ob bm=some (0,List.map (eM (vks kcP) K66) M)) (o19:h.ob b19=some (4,[poC b])) (lm:bm<h.nx) (l19:b19<h.nx) (ne:¬ bm=b19)
  (hQ : ∀ (t:Slots) (h:Heap) (v18:AV),t 18=v18->b2a h v18 1 (List.map eI (nI W.reverse))->Q .normal t h) :
  cw O (.block 4 (.loop L74)) Q t h:=by
 have hW:W.length<=3072:=by
  obtain ⟨j,hj,he⟩:=List.getElem_of_mem hb
  have := L8g cm j b W (by rw [gG9 hj,he])
  omega
 rw [b0u]
 refine c2k (fun k t h=>∃ (p:Pose) (w:List Nat) (out:List Int) (v18:AV) (b19:Nat),w.length=k/\(p,w)∈L/\out++nI w.reverse=nI W.reverse/\t 4 = .fp (poC a) 0/\t 8 = .mp bm/\t 18=v18/\t 19 = .rp b19 0 0/\h.ob bm=some (0,List.map (eM (vks kcP) K66) M)/\h.ob b19=some (4,[poC p])/\b2a h v18 1 (List.map eI out)/\bm<h.nx/\b19<h.nx/\¬ bm=b19/\b07 v18 bm/\b07 v18 b19) W.length ?_ ?_
 ·exact ⟨b,W,[],.v (.slice none 0 0),b19,rfl,hb,rfl,s4,s8,s18,s19,om,o19,c0o,lm,l19,ne,b1w,b1w⟩
 clear s4 s8 s18 s19 om o19 lm l19 ne b19 t h
 rintro k t h ⟨p,w,out,v18,b19,hk,hp,ho,s4,s8,s18,s19,om,o19,ow,lm,l19,ne,ni,ni2⟩
 have hlen:out.length+w.length=W.length:=by
  have := congrArg List.length ho
  unfold nI at this
  simpa using this
 obtain ⟨j,hj,hpj⟩:=List.getElem_of_mem hp
 have hLj:L[j]?=some (p,w):=by rw [gG9 hj,hpj]
 obtain ⟨f,m,hMj,hcase⟩:=cm.at_ j p w hLj
 simp only [L74]
 rw [b9z]
 refine b0b fun K hK=>?_
 simp only [go_sem,s4,s19,o19]
 refine hK _ _ ?_
 clear hK K
 refine K7d (x:=!decide (p=a)) (by simp only [go_sem]) (fun hb=>?_) (fun hb=>?_)
 ·have hne:¬ p=a:=by simpa using hb
  obtain ⟨w',y,j',hj',hLj',rfl,hy,rfl⟩:∃ (w':List Nat) (y j':Nat),j'<j/\L[j']?=some (f,w')/\w=w'++[y]/\y<9/\m=y:=by
   rcases hcase with rfl|h
   ·exact absurd (by have:=fd.g _ hp; exact (Option.some.inj this).symm) hne
   ·exact h
  have hget:b2w M p (K47,0)=(f,(y:Int)):=j76 (by rw [L6z cm]; exact M02 fd) hMj
  have hap:ap 8 out [(y:Int)]=some (out++[(y:Int)]):=b9k (by simp only [List.length_append,List.length_cons,List.length_nil] at hlen ⊢; omega)
  simp only [b0s,b0f]
  refine b0i fun K2 hK2=>?_
  rw [b0u]
  refine b03 fun K hK=>?_
  simp only [go_sem,s8,s18,s19,o19,b5r v18]
  refine L8u (fk:=vks kcP) (fv:=K66) (fc:=L5z) (l:=M) (x:=p) (z:=(K47,0)) u8y L48 L6e rfl ?_ ?_
  ·simp only [go_sem,om,lm]
  rw [hget]
  simp only [go_sem,s18,b5r v18]
  refine b3a (f:=eI) (l:=out) (m:=[(y:Int)]) ?_ ?_ ?_ ?_ hap ?_
  ·exact (b3x ow (by intro j hj hl; first|rfl|simp only [go_sem,hl]) (by first|omega|exact Nat.le_refl _|(simp only [go_sem,nxs] <;> omega)))
  ·exact (b4t (by simp only [go_sem,b8s ow,List.length_append,List.map_append]) (by simp only [go_sem,b8s ow,List.length_append,List.map_append]))
  ·exact (b4r (by first|exact b1w|exact b1y (by first|omega|(simp only [nxs] <;> omega))|assumption|exact b1v (by assumption) (by first|omega|(simp only [go_sem,nxs] <;> omega))))
  ·exact (fun _=>by simp)
  simp only [go_sem,s18,b5r v18]
  refine hK _ _ ?_
  clear hK K
  simp only [b02,b0f]
  refine hK2 _ _ ?_
  refine b0v ?_
  refine b0b fun K hK=>?_
  simp only [go_sem,s8,s19,o19,l19,lm,ne,b1z ne,ni,ni2,b8s ow]
  refine hK _ _ ?_
  clear hK K
  refine b0b fun K hK=>?_
  simp only [go_sem,s8,s19,o19,l19,lm,ne,b1z ne,ni,ni2,b8s ow]
  refine hK _ _ ?_
  clear hK K
  refine b03 fun K hK=>?_
  simp only [go_sem,s8,s19,o19,l19,lm,ne,b1z ne,ni,ni2,b8s ow]
  refine L8u (fk:=vks kcP) (fv:=K66) (fc:=L5z) (l:=M) (x:=p) (z:=(K47,0)) u8y L48 L6e rfl ?_ ?_
  ·simp only [go_sem,om,lm,ne,b1z ne,ni,ni2,b8s ow]
  rw [hget]
  simp only [go_sem,s8,s19,o19,l19,lm,ne,b1z ne,ni,ni2,b8s ow]
  refine hK _ _ ?_
  clear hK K
  simp only [b0f]
  refine ⟨w'.length,by rw [<- hk]; simp,f,w',out++[(y:Int)],.rs (nxs h.nx) 0 (out++[(y:Int)]).length,nxs (nxs h.nx),rfl,mG9 hLj',?_,?_,?_,?_,?_,?_,?_,?_,?_,?_,?_,?_,?_⟩
  ·rw [<- ho]; unfold nI; simp
  ·simp only [go_sem,s4]
  ·simp only [go_sem,s8]
  ·simp only [go_sem]
  ·simp only [go_sem]
  ·simp only [go_sem,om,lm,ne,b1z ne,ni,ni2,b8s ow]
  ·simp only [go_sem]
  ·exact b2v (by simp only [go_sem,b8s ow]) (by simp only [go_sem,List.length_map]) (by simp only [go_sem])
  ·simp only [go_sem,lm]
  ·simp only [go_sem]
  ·simp only [nxs]; omega
  ·exact b1y (by simp only [nxs]; omega)
  ·exact b1y (by simp only [nxs]; omega)
 ·have hpa:p=a:=by simpa using hb
  have hw:w=[]:=by
   have h0:=fd.z0
   have : j=0:=fd.n j 0 _ _ hLj h0 hpa
   subst this
   rw [hLj] at h0
   simp only [iE9,Prod.mk.injEq] at h0
   exact h0.2
  subst hw
  simp only [b09,b1b,b1a]
  refine hQ _ _ v18 (by simp only [go_sem,s18]) ?_
  rw [<- ho]
  simpa [nI] using ow
def L79 (O:Orac):Prop:=∀ (s:Shaft) (e:V3) (a b:Pose),b80 s.Size->b80 e->l64 s e a=true->Fn O "(*newel/shaft.crate).carry" [.fp (crC s e) 0,.agg (poC a),.agg (poC b)] (.tup [.fs 1 (List.map eI (K62 s e a b).1),B (decide ((K62 s e a b).2=0))])
theorem M1y (hf:Has O "(*newel/shaft.crate).carry" x___shaft_crate__carry) (km:L4z O) (kr:d00 O) (hrev:∀ l:List Int,l.length<=100000->H9x l=some l.reverse):L79 O:=by
 intro s e a b hz he ha
 refine b1i hf rfl (b0a (.fp _ _ (L44 s e)) (b0a (.agg _ (K35 a)) (b0a (.agg _ (K35 b)) b0j))) (.tup _ (b0a (b0c fun a _=>b1t a) (b0a (b0e _) b0j))) ?_
 refine b1c (fun t1 h=>t1 0 = .fp (crC s e) 0/\t1 1 = .agg (poC a)/\t1 2 = .agg (poC b)) ⟨rfl,rfl,rfl⟩ fun t1 h ⟨s0,s1,s2⟩=>?_
 simp only [x___shaft_crate__carry]
 refine b0b fun K hK=>?_
 simp only [go_sem,s1,s2]
 refine hK _ _ ?_
 clear hK K
 refine b0b fun K hK=>?_
 simp only [go_sem]
 refine g0d (O:=O) (e:=List.map (eM (vks kcP) K66) ([]:List (Pose × (Pose × Int)))) rfl ?_
 simp only [go_sem]
 refine L7a (fk:=vks kcP) (fv:=K66) (l:=([]:List (Pose × (Pose × Int)))) (x:=a) (v:=(a,-1)) g1t L48 rfl rfl ?_ ?_
 ·simp only [go_sem]
 simp only [go_sem]
 refine hK _ _ ?_
 clear hK K
 refine b0b fun K hK=>?_
 simp only [go_sem]
 refine hK _ _ ?_
 clear hK K
 refine b0v ?_
 refine b0b fun K hK=>?_
 simp only [go_sem]
 refine hK _ _ ?_
 clear hK K
 rw [b9z]
 refine M0l s e a b hz he km (bm:=h.nx) (bq:=nxs h.nx) (L:=[(a,[])]) (M:=[(a,(a,-1))]) ⟨J3e a,M0h a,?_,by simp only [go_sem,s0],by simp only [go_sem],by simp only [go_sem],by simp only [go_sem],?_,by simp only [go_sem]; rfl,?_,?_,?_,?_,?_⟩ ?_
 ·intro p hp
  have : p=a:=by simpa [pz] using hp
  rw [this]; exact ha
 ·simp only [go_sem]; rfl
 ·simp only [go_sem]; rfl
 ·simp only [go_sem]; rfl
 ·simp only [go_sem]
 ·simp only [go_sem]
 ·simp only [nxs]; omega
 clear s0 s1 s2
 generalize h.nx=bm
 intro t h i L M bq S hend
 have few:=L6k hz he S
 obtain ⟨fd,cm,ft,s0,s4,s5,s8,s9,s10,om,oq,lm,lq,ne⟩:=S
 simp only [b0f]
 refine b0v ?_
 refine b0b fun K hK=>?_
 simp only [go_sem,s5,s8]
 refine L8t (fk:=vks kcP) (fv:=K66) (fc:=L5z) (l:=M) (x:=b) (z:=(K47,0)) j8c L48 L6e rfl ?_ ?_
 ·simp only [go_sem,om,lm]
 simp only [go_sem,s5,s8]
 refine hK _ _ ?_
 clear hK K
 refine b0v ?_
 refine b0b fun K hK=>?_
 simp only [go_sem]
 refine hK _ _ ?_
 clear hK K
 rw [b9z]
 have hmem:b6m M b=true ↔ ∃ W,(b,W)∈L:=by
  rw [j78,L6z cm,List.mem_map]
  constructor
  ·rintro ⟨⟨p,W⟩,h1,rfl⟩; exact ⟨W,h1⟩
  ·rintro ⟨W,h1⟩; exact ⟨_,h1,rfl⟩
 refine K7d (x:=!(b6m M b)) (by simp only [go_sem]) (fun hb=>?_) (fun hb=>?_)
 ·have hno:∀ W,(b,W) ∉ L:=fun W hW=>by rw [hmem.2 ⟨W,hW⟩] at hb; cases hb
  have hc:K62 s e a b=([],3):=L8i fun W hW=>by
   rcases hend with hle|⟨c,hc,rfl⟩
   ·obtain ⟨d,hd,rfl,_⟩:=J1j fd hle W b hW.1
    exact hno _ hd
   ·exact hno c.2 (mG9 hc)
  rw [hc]
  refine b0b fun K hK=>?_
  simp only [go_sem]
  refine hK _ _ ?_
  clear hK K
  simp only [b0x,b1p,b0y]
  exact d66 (v:=.v (.slice none 0 0)) (u:=B false) (by simp only [go_sem]) (by simp only [go_sem]) (.nil 1) (.refl _ (b0e _))
 ·obtain ⟨W,hW⟩:=hmem.1 (by simpa using hb)
  have hleast:H85 (stS s e) a b W:=by
   rcases hend with hle|⟨c,hc,rfl⟩
   ·exact J3b fd hle hW
   ·obtain ⟨j,hj,hjW⟩:=List.getElem_of_mem hW
    have : j=i:=fd.n j i _ _ (gG9 hj) hc (by rw [hjW])
    subst this
    have h1:=M01 fd hc
    rw [gG9 hj,hjW] at hc
    have e2:W=c.2:=congrArg Prod.snd (Option.some.inj hc)
    rw [e2]
    exact h1
  rw [L8h hleast]
  have hWl:W.length<=3072:=by
   obtain ⟨j,hj,hjW⟩:=List.getElem_of_mem hW
   have := L8g cm j b W (by rw [gG9 hj,hjW])
   omega
  simp only [b0s,b0f]
  refine b0b fun K hK=>?_
  simp only [go_sem]
  refine hK _ _ ?_
  clear hK K
  refine b0v ?_
  refine b0b fun K hK=>?_
  simp only [go_sem,s5]
  refine hK _ _ ?_
  clear hK K
  rw [b9z]
  refine M0i s e a b (bm:=bm) (b19:=nxs h.nx) fd cm few hW (by simp only [go_sem,s4]) (by simp only [go_sem,s8]) (by simp only [go_sem]) (by simp only [go_sem]) (by simp only [go_sem,om,lm]) (by simp only [go_sem]) (by simp only [go_sem,lm]) (by simp only [go_sem]) (by simp only [nxs]; omega) ?_
  intro t h v18 s18 ow
  simp only [b0f]
  refine b2p (fun t h=>t 18=v18/\b2a h v18 1 (List.map eI (nI W))) (fun K hK=>?_) ?_
  ·simp only [go_sem,s18,l3r ow,b5r v18]
   refine d9m (kr (nI W.reverse) v18 _ ow (nI W) ?_) ?_
   ·rw [hrev _ (by unfold nI; simp; omega)]
    unfold nI
    rw [List.map_reverse,List.reverse_reverse]
   rintro _ hq ⟨rfl,ow2,fr,fx⟩
   simp only [go_sem,s18,b5r v18]
   exact hK _ _ ⟨s18,ow2⟩
  ·rintro t h ⟨s18,ow⟩
   refine b0b fun K hK=>?_
   simp only [go_sem,s18,l3r ow,b5r v18]
   refine hK _ _ ?_
   clear hK K
   simp only [b0x,b1p,b2e,b0y]
   exact d66 (v:=v18) (u:=B true) (by simp only [go_sem,s18]) (by simp only [go_sem]) (r8x (f:=eI) (l:=nI W) ow b1t b8p) (.refl _ (b0e _))
end Go.Nw.YM
namespace Go.Nw.YM
open Go.Nw.Tp5
set_option maxHeartbeats 4000000
variable {O:Orac} [MapsOk O]
theorem M10 (hf:Has O "newel/shaft.Carry" x_shaft_Carry) (kc:L41 O) (kb:L6m O) (ki:L51 O) (km:L79 O):L53 O:=by
 intro s e a b r hm0
 unfold L5u at hm0
 split at hm0
 case isFalse=>cases hm0
 rename_i hok
 obtain ⟨hok,ha,hb⟩:=hok
 have hr:=Option.some.inj hm0
 subst hr
 have sma:Sml a.At:=by obtain ⟨_,h⟩:=L43 (L4q hok) (L4p hok) ha; unfold Sml sml; omega
 have smb:Sml b.At:=by obtain ⟨_,h⟩:=L43 (L4q hok) (L4p hok) hb; unfold Sml sml; omega
 refine b1i hf rfl (b0a (.agg _ (L61 s)) (b0a (.agg _ (L39 e)) (b0a (.agg _ (K35 a)) (b0a (.agg _ (K35 b)) b0j)))) (.tup _ (b0a (b0c fun a _=>b1t a) (b0a (b0e _) b0j))) ?_
 refine b1c (fun t1 h=>t1 0 = .agg (shC s)/\t1 1 = .agg (aV e)/\t1 2 = .agg (poC a)/\t1 3 = .agg (poC b)) ⟨rfl,rfl,rfl,rfl⟩ fun t1 h ⟨s0,s1,s2,s3⟩=>?_
 simp only [x_shaft_Carry]
 refine b0b fun K hK=>?_
 simp only [go_sem,s0,s1,s2,s3]
 refine hK _ _ ?_
 clear hK K
 refine b0v ?_
 refine b0b fun K hK=>?_
 simp only [go_sem]
 refine b01 (kc s e 0 hok.c) ?_
 simp only [go_sem]
 refine hK _ _ ?_
 clear hK K
 refine b0v ?_
 refine b0b fun K hK=>?_
 simp only [go_sem]
 refine hK _ _ ?_
 clear hK K
 rw [b9z]
 refine K7d (x:=false) (by simp only [go_sem]; rfl) (fun hb=>by cases hb) (fun _=>?_)
 simp only [b0s,b0f]
 refine b0b fun K hK=>?_
 simp only [go_sem]
 refine b01 (kb s e hok.n) ?_
 simp only [go_sem]
 refine hK _ _ ?_
 clear hK K
 refine b0v ?_
 refine b0b fun K hK=>?_
 simp only [go_sem]
 refine b01 (ki s e a (L4q hok) (L4p hok) sma) ?_
 simp only [go_sem,ha]
 refine b01 (ki s e b (L4q hok) (L4p hok) smb) ?_
 simp only [go_sem,ha,hb]
 refine hK _ _ ?_
 clear hK K
 rw [b9z]
 refine K7d (x:=false) (by simp only [go_sem]; try rfl) (fun hb=>by cases hb) (fun _=>?_)
 simp only [b0s,b0f]
 refine b0b fun K hK=>?_
 simp only [go_sem]
 refine b01 (km s e a b (L4q hok) (L4p hok) ha) ?_
 simp only [go_sem,b5r]
 refine hK _ _ ?_
 clear hK K
 refine b0v ?_
 refine b0b fun K hK=>?_
 simp only [go_sem]
 refine hK _ _ ?_
 clear hK K
 rw [b9z]
 have two:=M0m s e a b
 generalize K62 s e a b=r at two
 obtain ⟨l,n⟩:=r
 rcases two with h0|h3
 ·simp only at h0
  subst h0
  refine K7d (x:=false) (by simp only [go_sem]) (fun hb=>by cases hb) (fun _=>?_)
  simp only [b0s,b0f]
  refine b0b fun K hK=>?_
  simp only [go_sem]
  refine hK _ _ ?_
  clear hK K
  simp only [b0x,b1p,b0y]
  exact d66 (v:=.fs 1 (List.map eI l)) (u:=I 0) (by simp only [go_sem]) (by simp only [go_sem]) (.refl _ (b0c fun a _=>b1t a)) (.refl _ (b0e _))
 ·simp only [Prod.mk.injEq] at h3
  obtain ⟨rfl,rfl⟩:=h3
  refine K7d (x:=true) (by simp only [go_sem]; rfl) (fun _=>?_) (fun hb=>by cases hb)
  refine b0b fun K hK=>?_
  simp only [go_sem]
  refine hK _ _ ?_
  clear hK K
  simp only [b0x,b1p,b0y]
  exact d66 (v:=.v (.slice none 0 0)) (u:=I 3) (by simp only [go_sem]) (by simp only [go_sem]) (.nil 1) (.refl _ (b0e _))
end Go.Nw.YM
namespace Go.Nw.YM
def wl_0:List ByteArray:=[ByteArray.mk #[97,110,121],ByteArray.mk #[116,111],ByteArray.mk #[122,101,114,111],ByteArray.mk #[109,111,114,101],ByteArray.mk #[108,101,115,115],ByteArray.mk #[105,102],ByteArray.mk #[121,101,115],ByteArray.mk #[110,111]]
def b2b (n low high:Int):Bool:=decide (low<=n) && decide (n<=high)
end Go.Nw.YM
namespace Go.Nw
theorem j7u {σ τ β:Type} {f:τ->Option (Out τ β)} (n:Nat) (mk:σ->Int->τ) (Inv:Nat->σ->Prop) (P:β->Prop)
  (step : ∀ s (k:Nat),k<n->Inv k s->(∃ s',f (mk s k)=some (.nx (mk s' ((k:Int)+1)))/\Inv (k+1) s')\/∃ b,f (mk s k)=some (.br b)/\P b)
  (fin : ∀ s,Inv n s->∃ b,f (mk s n)=some (.br b)/\P b) {s:σ} (k0:Nat) (hk0:k0<=n) (h0:Inv k0 s):∃ b,b0w f (mk s k0)=some b/\P b:=by
 have key:∀ (d k:Nat) (s:σ),n - k=d->k<=n->Inv k s->∃ b,b0w f (mk s k)=some b/\P b:=by
  intro d
  induction d with
  | zero =>
   intro k s hd hk hi
   have : k=n:=by omega
   subst this
   obtain ⟨b,h1,h2⟩:=fin s hi
   exact ⟨b,b3d h1,h2⟩
  | succ d ih =>
   intro k s hd hk hi
   rcases step s k (by omega) hi with ⟨s',h1,h2⟩|⟨b,h1,h2⟩
   ·rw [w91 h1]
    exact ih (k+1) s' (by omega) (by omega) h2
   ·exact ⟨b,b3d h1,h2⟩
 exact key _ k0 s rfl hk0 h0
theorem s9p (a:Nat) (ha:a<18446744073709551616):(BitVec.ofInt 64 (a:Int)).toNat=a:=by
 rw [BitVec.ofInt_natCast,BitVec.toNat_ofNat]; exact Nat.mod_eq_of_lt (by simpa using ha)
theorem u4f {a:Nat} (ha:a<9223372036854775808):IntKind.wrap .i64 (a:Int)=a:=g3z (by omega) (by omega)
theorem u6m {a b:Nat} (ha:a<9223372036854775808) (hb:b<9223372036854775808):b6y (a:Int) (b:Int)=((a &&& b:Nat):Int):=by
 show IntKind.wrap .i64 ((BitVec.ofInt 64 (a:Int) &&& BitVec.ofInt 64 (b:Int)).toNat:Int)=_
 rw [BitVec.toNat_and,s9p a (by omega),s9p b (by omega)]
 exact u4f (Nat.lt_of_le_of_lt Nat.and_le_left ha)
theorem u9n {a y:Nat} (hy:y<=64):d45 .i64 (a:Int) (y:Int)=((a >>> y:Nat):Int):=by
 have : Nat.min (y:Int).toNat IntKind.i64.bits=y:=Nat.min_eq_left (by rw [show IntKind.i64.bits=64 from rfl]; omega)
 unfold d45
 rw [this,Nat.shiftRight_eq_div_pow]
 have h2:(2:Int) ^ y=((2 ^ y:Nat):Int):=by simp
 rw [h2,Int.fdiv_eq_ediv_of_nonneg _ (Int.natCast_nonneg _)]; rfl
theorem u6r {a y:Nat} (ha:a<9223372036854775808) (hy:y<=64):b6y (d45 .i64 (a:Int) (y:Int)) 1=if a.testBit y then 1 else 0:=by
 rw [u9n hy]
 have h1:a >>> y<9223372036854775808:=by rw [Nat.shiftRight_eq_div_pow]; exact Nat.lt_of_le_of_lt (Nat.div_le_self _ _) ha
 have := u6m h1 (show (1:Nat)<9223372036854775808 by omega)
 rw [show ((1:Nat):Int)=1 from rfl] at this
 rw [this,Nat.testBit,Nat.and_comm]
 have h2:1 &&& (a >>> y)=(a >>> y) % 2:=by rw [Nat.and_comm,Nat.and_one_is_mod]
 rw [h2]
 have h3:(a >>> y) % 2=0\/(a >>> y) % 2=1:=by omega
 rcases h3 with h3|h3 <;> rw [h3] <;> rfl
def Sub (a b:Nat):Prop:=∀ i,a.testBit i=true->b.testBit i=true
theorem sub_zero (a:Nat):Sub 0 a:=fun i h=>by simp at h
end Go.Nw
namespace Go.Nw
theorem b1h {α:Type} {l:List α} {k:Nat} {x:α} (h:l[k]?=some x):get l (k:Int)=some x:=by
 unfold get; rw [if_pos (by omega)]; simpa using h
theorem b1k {α:Type} {l:List α} {k:Nat} {x:α} (h:l[k]?=some x):k<l.length:=(gS9.1 h).1
theorem b3b {α:Type} {l:List α} {k:Nat} (h:k<l.length):∃ x,l[k]?=some x:=⟨_,gG9 h⟩
theorem c3v {α β:Type} {f:Int->Option (Out Int β)} (l:List α) (bad:Nat->α->Prop) (e u:β)
  (bstep : ∀ k x,l[k]?=some x->bad k x->f (k:Int)=some (.br e)) (nstep:∀ k x,l[k]?=some x->¬ bad k x->f (k:Int)=some (.nx ((k:Int)+1)))
  (fin : f (l.length:Int)=some (.br u)):((∀ k x,l[k]?=some x->¬ bad k x)/\b0w f 0=some u)\/((∃ k x,l[k]?=some x/\bad k x)/\b0w f 0=some e):=by
 have key:∀ (d k:Nat),l.length - k=d->k<=l.length->(∀ j x,j<k->l[j]?=some x->¬ bad j x) ->
   ((∀ k x,l[k]?=some x->¬ bad k x)/\b0w f (k:Int)=some u)\/((∃ k x,l[k]?=some x/\bad k x)/\b0w f (k:Int)=some e):=by
  intro d
  induction d with
  | zero =>
   intro k hd hk hb
   have : k=l.length:=by omega
   subst this
   exact .inl ⟨fun j x hx=>hb j x (b1k hx) hx,b3d fin⟩
  | succ d ih =>
   intro k hd hk hb
   obtain ⟨x,hx⟩:=b3b (show k<l.length by omega)
   by_cases h:bad k x
   ·exact .inr ⟨⟨k,x,hx,h⟩,b3d (bstep k x hx h)⟩
   ·rw [w91 (nstep k x hx h)]
    refine ih (k+1) (by omega) (by omega) fun j y hj hy=>?_
    by_cases e:j=k
    ·subst e; rw [hx] at hy; cases hy; exact h
    ·exact hb j y (by omega) hy
 exact key l.length 0 (by omega) (by omega) fun j x hj=>by omega
theorem j7y {σ τ β:Type} {f:τ->Option (Out τ β)} (n:Nat) (mk:σ->Int->τ) (S:Nat->σ) (b:β)
  (step : ∀ k:Nat,k<n->f (mk (S k) k)=some (.nx (mk (S (k+1)) ((k:Int)+1)))) (fin:f (mk (S n) n)=some (.br b)) (k0:Nat) (hk0:k0<=n):b0w f (mk (S k0) k0)=some b:=by
 obtain ⟨b',h1,h2⟩:=j7u (f:=f) n mk (fun k s=>s=S k) (fun x=>x=b) (fun s k hk hs=>by
  subst hs; exact .inl ⟨_,step k hk,rfl⟩) (fun s hs=>by subst hs; exact ⟨b,fin,rfl⟩) k0 hk0 rfl
 rw [h1,h2]
theorem j7z {σ τ β:Type} {f:τ->Option (Out τ β)} (n:Nat) (mk:σ->Int->τ) (S:Nat->σ) (b:β)
  (step : ∀ k:Nat,k<n->f (mk (S k) k)=some (.nx (mk (S (k+1)) ((k:Int)+1)))) (fin:f (mk (S n) n)=some (.br b)):b0w f (mk (S 0) 0)=some b :=
 j7y n mk S b step fin 0 (Nat.zero_le _)
theorem b4h {σ τ β:Type} {f:τ->Option (Out τ β)} (n:Nat) (mk:σ->Int->τ) (S:Nat->σ) (b:β) {s0:σ} (h0:s0=S 0)
  (step : ∀ k:Nat,k<n->f (mk (S k) k)=some (.nx (mk (S (k+1)) ((k:Int)+1)))) (fin:f (mk (S n) n)=some (.br b)):b0w f (mk s0 0)=some b:=by
 subst h0; exact j7z n mk S b step fin
theorem g1j {α σ τ β:Type} {f:τ->Option (Out τ β)} (l:List α) (mk:σ->Int->τ) (S:Nat->σ) (bad:Nat->α->Prop) (e u:β)
  (bstep : ∀ k x,(∀ j y,j<k->l[j]?=some y->¬ bad j y)->l[k]?=some x->bad k x->f (mk (S k) k)=some (.br e))
  (nstep : ∀ k x,(∀ j y,j<k->l[j]?=some y->¬ bad j y)->l[k]?=some x->¬ bad k x->f (mk (S k) k)=some (.nx (mk (S (k+1)) ((k:Int)+1))))
  (fin : f (mk (S l.length) l.length)=some (.br u)) {s0:σ} (h0:s0=S 0):((∀ k x,l[k]?=some x->¬ bad k x)/\b0w f (mk s0 0)=some u)\/((∃ k x,l[k]?=some x/\bad k x)/\b0w f (mk s0 0)=some e):=by
 subst h0
 have key:∀ (d k:Nat),l.length - k=d->k<=l.length->(∀ j x,j<k->l[j]?=some x->¬ bad j x) ->
   ((∀ k x,l[k]?=some x->¬ bad k x)/\b0w f (mk (S k) k)=some u)\/((∃ k x,l[k]?=some x/\bad k x)/\b0w f (mk (S k) k)=some e):=by
  intro d
  induction d with
  | zero =>
   intro k hd hk hb
   have : k=l.length:=by omega
   subst this
   exact .inl ⟨fun j x hx=>hb j x (b1k hx) hx,b3d fin⟩
  | succ d ih =>
   intro k hd hk hb
   obtain ⟨x,hx⟩:=b3b (show k<l.length by omega)
   by_cases h:bad k x
   ·exact .inr ⟨⟨k,x,hx,h⟩,b3d (bstep k x hb hx h)⟩
   ·rw [w91 (nstep k x hb hx h)]
    refine ih (k+1) (by omega) (by omega) fun j y hj hy=>?_
    by_cases e:j=k
    ·subst e; rw [hx] at hy; cases hy; exact h
    ·exact hb j y (by omega) hy
 exact key l.length 0 (by omega) (by omega) fun j x hj=>by omega
theorem b2r {k n:Nat} (h:k<n) (hn:n<=maxLen):wr ((k:Int)+1)=(k:Int)+1:=b3t (by omega) (by simp only [maxLen] at hn; omega)
theorem x0f {b:Bool} (h:¬ b=true):b=false:=by cases b <;> simp_all
theorem c1n {n:Nat} (hn:n<=maxLen):wr ((n:Int) - 1)=(n:Int) - 1:=b3t (by simp only [maxLen] at hn; omega) (by simp only [maxLen] at hn; omega)
def b6i {α:Type} (s:List α) (f:α->Option Bool):Int->Option (Out Int (Unit ⊕ Int)):=fun x =>
 if decide (x<(List.length s:Int)) then (get s x).bind fun a=>(f a).bind fun y=>if y then some (.br (.inr x)) else some (.nx (wr (x+1)))
 else some (.br (.inl ()))
theorem j4x {α:Type} {s:List α} {f:α->Option Bool} {p:α->Prop} (hl:s.length<=maxLen) (hf:∀ x∈s,∃ b,f x=some b/\(b=true ↔ p x)) :
  (∃ (k:Nat) (x:α),s[k]?=some x/\p x/\(∀ j y,j<k->s[j]?=some y->¬ p y)/\b0w (b6i s f) 0=some (.inr (k:Int)))\/((∀ x∈s,¬ p x)/\b0w (b6i s f) 0=some (.inl ())):=by
 have key:∀ (d k:Nat),s.length - k=d->k<=s.length->(∀ j y,j<k->s[j]?=some y->¬ p y) ->
   (∃ (k':Nat) (x:α),s[k']?=some x/\p x/\(∀ j y,j<k'->s[j]?=some y->¬ p y)/\b0w (b6i s f) (k:Int)=some (.inr (k':Int)))\/((∀ x∈s,¬ p x)/\b0w (b6i s f) (k:Int)=some (.inl ())):=by
  intro d
  induction d with
  | zero =>
   intro k hd hk hb
   have : k=s.length:=by omega
   subst this
   refine .inr ⟨fun x hx=>?_,b3d (by simp [b6i])⟩
   obtain ⟨j,hj,rfl⟩:=List.getElem_of_mem hx
   exact hb j _ hj (gG9 hj)
  | succ d ih =>
   intro k hd hk hb
   obtain ⟨x,hx⟩:=b3b (show k<s.length by omega)
   obtain ⟨b,hb1,hb2⟩:=hf x (mG9 hx)
   cases b with
   | true=>exact .inl ⟨k,x,hx,hb2.1 rfl,hb,b3d (by simp [b6i,b1h hx,hb1,b1k hx])⟩
   | false =>
    rw [w91 (s':=(k:Int)+1) (by simp [b6i,b1h hx,hb1,b1k hx,b2r (b1k hx) hl])]
    refine ih (k+1) (by omega) (by omega) fun j y hj hy=>?_
    by_cases e:j=k
    ·subst e; rw [hx] at hy; cases hy; exact fun hp=>by have:=hb2.2 hp; cases this
    ·exact hb j y (by omega) hy
 exact key s.length 0 (by omega) (by omega) fun j x hj=>by omega
theorem j40 {α:Type} {s:List α} {f:α->Option Bool} {p:α->Prop} {g:Option Int} (hg:g=(b0w (b6i s f) 0).bind fun|(.inl ())=>some (-1)|(.inr r')=>some r')
  (hl : s.length<=maxLen) (hf:∀ x∈s,∃ b,f x=some b/\(b=true ↔ p x)) :
  (∃ (k:Nat) (x:α),s[k]?=some x/\p x/\(∀ j y,j<k->s[j]?=some y->¬ p y)/\g=some (k:Int))\/((∀ x∈s,¬ p x)/\g=some (-1)):=by
 subst hg
 rcases j4x hl hf with ⟨k,x,h1,h2,h3,h4⟩|⟨h1,h2⟩
 ·exact .inl ⟨k,x,h1,h2,h3,by rw [h4]; rfl⟩
 ·exact .inr ⟨h1,by rw [h2]; rfl⟩
theorem G6l {α:Type} {s:List α} {f:α->Option Bool} {p:α->Prop} {g:Option Bool} (hg:g=((b0w (b6i s f) 0).bind fun|(.inl ())=>some (-1)|(.inr r')=>some r').bind fun y=>some (decide (0<=y)))
  (hl : s.length<=maxLen) (hf:∀ x∈s,∃ b,f x=some b/\(b=true ↔ p x)):∃ b,g=some b/\(b=true ↔ ∃ x∈s,p x):=by
 subst hg
 rcases j40 rfl hl hf with ⟨k,x,h1,h2,h3,h4⟩|⟨h1,h2⟩
 ·rw [h4]; exact ⟨_,rfl,by simp; exact ⟨x,mG9 h1,h2⟩⟩
 ·rw [h2]; exact ⟨_,rfl,by simp; exact h1⟩
def tab {α:Type} (n:Nat) (f:Nat->α):List α:=(List.range n).map f
def fill {α:Type} (n:Nat) (f:Nat->α) (z:α) (k:Nat):List α:=tab n fun i=>if i<k then f i else z
theorem b3y {α:Type} {n:Nat} {f:Nat->α}:(tab n f).length=n:=by simp [tab]
theorem c1l {α:Type} {n:Nat} {f:Nat->α} {i:Nat} (h:i<n):(tab n f)[i]?=some (f i):=by simp [tab,h]
theorem c2y {α:Type} {n:Nat} {f:Nat->α} {i:Nat} (h:i<n):get (tab n f) (i:Int)=some (f i):=b1h (c1l h)
theorem c1m {α:Type} {n:Nat} {f g:Nat->α} (h:∀ i,i<n->f i=g i):tab n f=tab n g:=List.map_congr_left fun i hi=>h i (List.mem_range.1 hi)
theorem l5w {α:Type} {n:Nat} {f:Nat->α}:tab (n+1) f=tab n f++[f n]:=by simp [tab,List.range_succ]
theorem d5i {α:Type} {n:Nat} {f:Nat->α} {k:Nat} {v:α}:(tab n f).set k v=tab n fun i=>if i=k then v else f i:=by
 apply List.ext_getElem?
 intro i
 by_cases hi:i<n
 ·rw [c1l hi,List.getElem?_set]
  by_cases e:k=i
  ·subst e; simp [b3y,hi]
  ·rw [if_neg e,c1l hi,if_neg (fun h=>e h.symm)]
 ·rw [List.getElem?_eq_none (by simp [b3y]; omega),List.getElem?_eq_none (by simp [b3y]; omega)]
theorem p6y {α:Type} {n:Nat} {z:α}:List.replicate n z=tab n fun _=>z:=by
 apply List.ext_getElem?
 intro i
 by_cases hi:i<n
 ·rw [c1l hi]; simp [hi]
 ·rw [List.getElem?_eq_none (by simp; omega),List.getElem?_eq_none (by simp [b3y]; omega)]
theorem d7z {α:Type} {n k:Nat} {f:Nat->α} {z:α}:(fill n f z k).length=n:=b3y
theorem d1w {α:Type} {n:Nat} {f:Nat->α} {z:α}:List.replicate n z=fill n f z 0:=by rw [p6y]; rfl
theorem d1u {α:Type} {n k:Nat} {f:Nat->α} {z:α} (h:n<=k):fill n f z k=tab n f:=c1m fun i hi=>if_pos (by omega)
theorem c2r {α:Type} {n k:Nat} {f:Nat->α} {z v:α} (hv:v=f k):(fill n f z k).set k v=fill n f z (k+1):=by
 unfold fill
 rw [d5i]
 refine c1m fun i hi=>?_
 by_cases e:i=k
 ·subst e; simp [hv]
 ·rw [if_neg e]
  by_cases h:i<k
  ·rw [if_pos h,if_pos (by omega)]
  ·rw [if_neg h,if_neg (by omega)]
theorem d15 {α:Type} {n k i:Nat} {f:Nat->α} {z:α} (h:i<n):get (fill n f z k) (i:Int)=some (if i<k then f i else z):=c2y h
theorem g1q {α:Type} {b n:Nat} {z:α} (h:n * b<=2 ^ 47) (hb:1<=b):mks b (n:Int) z=some (tab n fun _=>z):=by
 have h3:n<=n * b:=Nat.le_mul_of_pos_right n hb
 have : ((n * b:Nat):Int)=(n:Int) * b:=by simp
 rw [j8b (by omega) (by rw [<- this]; omega) (by omega),<- p6y]; rfl
end Go.Nw
namespace Go.Nw
def b5q (n:Nat) (p:Nat->Bool):Option Nat:=(List.range n).find? p
theorem d72 {n:Nat} {p:Nat->Bool}:b5q n p=none ↔ ∀ t,t<n->p t=false:=by
 unfold b5q
 rw [List.find?_eq_none]
 constructor
 ·intro h t ht; have:=h t (List.mem_range.2 ht); simpa using this
 ·intro h t ht; rw [h t (List.mem_range.1 ht)]; simp
theorem j01 {n:Nat} {p:Nat->Bool} {k:Nat} (hk:k<n) (hp:p k=true) (hb:∀ j,j<k->p j=false):b5q n p=some k:=by
 unfold b5q
 rw [List.find?_range_eq_some]
 exact ⟨hp,List.mem_range.2 hk,fun j hj=>by simp [hb j hj]⟩
theorem j00 {n:Nat} {p:Nat->Bool} {k:Nat} (h:b5q n p=some k):k<n/\p k=true/\∀ j,j<k->p j=false:=by
 unfold b5q at h
 rw [List.find?_range_eq_some] at h
 exact ⟨List.mem_range.1 h.2.1,h.1,fun j hj=>by have:=h.2.2 j hj; simpa using this⟩
theorem c7s {β:Type} {f:Int->Option (Out Int β)} {n:Nat} {p:Nat->Bool} {e:Nat->β} {u:β} (hb:∀ t:Nat,t<n->p t=true->f (t:Int)=some (.br (e t)))
  (hn : ∀ t:Nat,t<n->p t=false->f (t:Int)=some (.nx ((t:Int)+1))) (hu:f (n:Int)=some (.br u)):b0w f 0=some (match b5q n p with|some t=>e t|none=>u):=by
 have key:∀ (d k:Nat),n - k=d->k<=n->(∀ j,j<k->p j=false)->b0w f (k:Int)=some (match b5q n p with|some t=>e t|none=>u):=by
  intro d
  induction d with
  | zero =>
   intro k hd hk hj
   have : k=n:=by omega
   subst this
   rw [d72.2 hj]
   exact b3d hu
  | succ d ih =>
   intro k hd hk hj
   cases hp:p k with
   | true =>
    rw [j01 (by omega) hp hj]
    exact b3d (hb k (by omega) hp)
   | false =>
    rw [w91 (hn k (by omega) hp)]
    have := ih (k+1) (by omega) (by omega) (fun j hj'=>by
     by_cases e:j=k
     ·subst e; exact hp
     ·exact hj j (by omega))
    rwa [show ((k+1:Nat):Int)=(k:Int)+1 by omega] at this
 exact key n 0 (by omega) (by omega) fun j hj=>by omega
end Go.Nw
