/- That the texts make what their models say: printed by a program. -/
import Derived.Test.YtccjacnppmciaaaGreatDoorAM
set_option linter.all false
namespace Go.Nw.AM
open Go.Nw.Acc
set_option maxHeartbeats 4000000
variable {O:Orac} [MapsOk O]
theorem d3k (hf:Has O "newel/situation.Reserved" x_situation_Reserved):d0n O:=by
 intro word;generalize hm0:b84 word=r;unfold b84 at hm0;refine b1i hf rfl (b0a (b0e _) b0j) (b0e _) ?_;refine b1c (fun t h=>t 0 = .v (.string word)) rfl fun t h s0=>?_;simp only [x_situation_Reserved];apply b0b;intro K hK;simp only [go_sem];apply hK;refine b0v ?_;apply b0b;intro K hK;simp only [go_sem,s0];apply hK;refine b0i fun K1 hK1=>?_;simp only [b0u];refine b0v ?_;apply b0b;intro K hK;simp only [go_sem];apply hK;refine b0i fun K2 hK2=>?_
 have J3:∀ (x_4:Bool) (t:Slots) (h:Heap),t 4=B x_4->b5w x_4=r->K2 t h:=by
  intro x_4 t h s4 hm0;refine hK2 _ _ ?_;unfold b5w at hm0;simp only [go_sem,s4];refine b0k (fun hc4=>?_) (fun hc4=>?_)
  ·rw [b0r hc4] at hm0;apply b0b;intro K hK;simp only [go_sem];apply hK;simp only [b0x,b1p,b2e,b0y];obtain rfl:=hm0;exact b04 vb9 (b0e _)
  ·rw [b0q hc4] at hm0;simp only [b0s,b02,b0f];refine hK1 _ _ ?_;apply b0b;intro K hK;simp only [go_sem];apply hK;simp only [b0x,b1p,b2e,b0y];obtain rfl:=hm0;exact b04 vb9 (b0e _)
 simp only [go_sem];refine b0k (fun hc5=>?_) (fun hc5=>?_)
 ·rw [b0r hc5] at hm0;simp only [b0s,b02,b0f];exact J3 (decide (word=(ByteArray.mk #[97,110,121]))) _ _ va9 hm0
 ·rw [b0q hc5] at hm0;apply b0b;intro K hK;simp only [go_sem];apply hK;simp only [go_sem];refine b0k (fun hc6=>?_) (fun hc6=>?_)
  ·rw [b0r hc6] at hm0;simp only [b0s,b02,b0f];exact J3 (decide (word=(ByteArray.mk #[116,111]))) _ _ va9 hm0
  ·rw [b0q hc6] at hm0;apply b0b;intro K hK;simp only [go_sem];apply hK;simp only [go_sem];refine b0k (fun hc7=>?_) (fun hc7=>?_)
   ·rw [b0r hc7] at hm0;simp only [b0s,b02,b0f];exact J3 (decide (word=(ByteArray.mk #[122,101,114,111]))) _ _ va9 hm0
   ·rw [b0q hc7] at hm0;apply b0b;intro K hK;simp only [go_sem];apply hK;simp only [go_sem];refine b0k (fun hc8=>?_) (fun hc8=>?_)
    ·rw [b0r hc8] at hm0;simp only [b0s,b02,b0f];exact J3 (decide (word=(ByteArray.mk #[109,111,114,101]))) _ _ va9 hm0
    ·rw [b0q hc8] at hm0;apply b0b;intro K hK;simp only [go_sem];apply hK;simp only [go_sem];refine b0k (fun hc9=>?_) (fun hc9=>?_)
     ·rw [b0r hc9] at hm0;simp only [b0s,b02,b0f];exact J3 (decide (word=(ByteArray.mk #[108,101,115,115]))) _ _ va9 hm0
     ·rw [b0q hc9] at hm0;apply b0b;intro K hK;simp only [go_sem];apply hK;simp only [go_sem];refine b0k (fun hc10=>?_) (fun hc10=>?_)
      ·rw [b0r hc10] at hm0;simp only [b0s,b02,b0f];exact J3 (decide (word=(ByteArray.mk #[105,102]))) _ _ va9 hm0
      ·rw [b0q hc10] at hm0;apply b0b;intro K hK;simp only [go_sem];apply hK;simp only [go_sem];refine b0k (fun hc11=>?_) (fun hc11=>?_)
       ·rw [b0r hc11] at hm0;simp only [b0s,b02,b0f];exact J3 (decide (word=(ByteArray.mk #[121,101,115]))) _ _ va9 hm0
       ·rw [b0q hc11] at hm0;apply b03;intro K hK;simp only [go_sem];apply hK;simp only [b02,b0f];exact J3 (decide (word=(ByteArray.mk #[110,111]))) _ _ va9 hm0
theorem d3l (hf:Has O "newel/situation.asks" x_situation_asks) (b4q:c5u O):d0o O:=by
 intro m x r hm0;unfold c43 at hm0;refine b1i hf rfl (b0a (fM _) (b0a (.agg _ (b0a (b0e _) (b0a (b0e _) (b0a (b0e _) (b0a (b0e _) b0j))))) b0j)) (b0e _) ?_;refine b1c (fun t h=>t 0 = .agg (vM m)/\t 1 = .agg [I x.Kind,I x.Number,I x.Value,B x.Not]) ⟨rfl,rfl⟩ fun t h ⟨s0,s1⟩=>?_;simp only [x_situation_asks];apply b0b;intro K hK;simp only [go_sem,s0,s1];apply hK;refine b0v ?_;apply b0b;intro K hK;simp only [go_sem];apply hK;refine b0i fun K1 hK1=>?_;simp only [b0u];apply b0b;intro K hK;simp only [go_sem];apply hK;simp only [go_sem];refine b0k (fun hc2=>?_) (fun hc2=>?_)
 ·rw [b0r hc2] at hm0;refine b2p (fun t h=>t 4=B ((b2q x.Number 0 (wr ((List.length m.Inputs:Int) - 1))) && (decide (x.Value=0)))) (fun K hK=>?_) ?_
  ·simp only [go_sem];refine b01 (b4q x.Number 0 (wr ((List.length m.Inputs:Int) - 1))) ?_;simp only [go_sem];refine b0k (fun hg3=>?_) (fun hg3=>?_)
   ·simp only [go_sem,hg3];exact hK _ _ (by first|(simp only [go_sem,hg3,lA9,mA9]; done)|rfl)
   ·simp only [go_sem,hg3];exact hK _ _ (by first|(simp only [go_sem,hg3,lA9,mA9]; done)|rfl)
  ·rintro t h s4;simp only [b0x,b1p,b2e,b0y];obtain rfl:=sI9 hm0;exact b04 (by simp only [go_sem,s4,lA9,mA9]) (b0e _)
 ·rw [b0q hc2] at hm0;apply b0b;intro K hK;simp only [go_sem];apply hK;simp only [go_sem];refine b0k (fun hc4=>?_) (fun hc4=>?_)
  ·rw [b0r hc4] at hm0;obtain ⟨c8,h_c8,hm0⟩:=b0g hm0;refine b2p (fun t h=>t 4=B c8) (fun K hK=>?_) ?_
   ·simp only [go_sem];refine b01 (b4q x.Number 0 (wr ((List.length m.Counters:Int) - 1))) ?_;simp only [go_sem];refine b0k (fun hg9=>?_) (fun hg9=>?_)
    ·simp only [hg9,Bool.not_true,Bool.not_false,eq_self,if_true,if_false,Bool.true_or,Bool.or_true,Bool.false_or,Bool.or_false,Bool.true_and,Bool.and_true,Bool.false_and,Bool.and_false,fT9] at h_c8;obtain ⟨x7,h_x7,h_c8⟩:=b0g h_c8;have h_x70:=b05 h_x7;have h_x71:=b06 h_x7;obtain rfl:=sI9 h_c8;simp only [go_sem,b08 h_x7,b3n h_x7,h_x70,h_x71,hg9];refine b01 (b4q x.Value 0 x7.Max) ?_;simp only [go_sem,b08 h_x7,b3n h_x7,h_x70,h_x71,hg9];exact hK _ _ (by first|(simp only [go_sem,hg9,lA9,mA9]; done)|rfl)
    ·simp only [hg9,Bool.not_true,Bool.not_false,eq_self,if_true,if_false,Bool.true_or,Bool.or_true,Bool.false_or,Bool.or_false,Bool.true_and,Bool.and_true,Bool.false_and,Bool.and_false,fT9] at h_c8;obtain rfl:=sI9 h_c8;simp only [go_sem,hg9];exact hK _ _ (by first|(simp only [go_sem,hg9,lA9,mA9]; done)|rfl)
   ·rintro t h s4;simp only [b0x,b1p,b2e,b0y];obtain rfl:=sI9 hm0;exact b04 (by simp only [go_sem,s4,lA9,mA9]) (b0e _)
  ·rw [b0q hc4] at hm0;apply b0b;intro K hK;simp only [go_sem];apply hK;simp only [go_sem];refine b0k (fun hc10=>?_) (fun hc10=>?_)
   ·rw [b0r hc10] at hm0;refine b2p (fun t h=>t 4=B ((b2q x.Number 0 (wr ((List.length m.States:Int) - 1))) && (decide (x.Value=0)))) (fun K hK=>?_) ?_
    ·simp only [go_sem];refine b01 (b4q x.Number 0 (wr ((List.length m.States:Int) - 1))) ?_;simp only [go_sem];refine b0k (fun hg11=>?_) (fun hg11=>?_)
     ·simp only [go_sem,hg11];exact hK _ _ (by first|(simp only [go_sem,hg11,lA9,mA9]; done)|rfl)
     ·simp only [go_sem,hg11];exact hK _ _ (by first|(simp only [go_sem,hg11,lA9,mA9]; done)|rfl)
    ·rintro t h s4;simp only [b0x,b1p,b2e,b0y];obtain rfl:=sI9 hm0;exact b04 (by simp only [go_sem,s4,lA9,mA9]) (b0e _)
   ·rw [b0q hc10] at hm0;apply b0b;intro K hK;simp only [go_sem];apply hK;simp only [go_sem];refine b0k (fun hc12=>?_) (fun hc12=>?_)
    ·rw [b0r hc12] at hm0;refine b2p (fun t h=>t 4=B ((b2q x.Number 0 (wr ((List.length m.Outputs:Int) - 1))) && (decide (x.Value=0)))) (fun K hK=>?_) ?_
     ·simp only [go_sem];refine b01 (b4q x.Number 0 (wr ((List.length m.Outputs:Int) - 1))) ?_;simp only [go_sem];refine b0k (fun hg13=>?_) (fun hg13=>?_)
      ·simp only [go_sem,hg13];exact hK _ _ (by first|(simp only [go_sem,hg13,lA9,mA9]; done)|rfl)
      ·simp only [go_sem,hg13];exact hK _ _ (by first|(simp only [go_sem,hg13,lA9,mA9]; done)|rfl)
     ·rintro t h s4;simp only [b0x,b1p,b2e,b0y];obtain rfl:=sI9 hm0;exact b04 (by simp only [go_sem,s4,lA9,mA9]) (b0e _)
    ·rw [b0q hc12] at hm0;simp only [b0s,b02,b0f];refine hK1 _ _ ?_;apply b0b;intro K hK;simp only [go_sem];apply hK;simp only [b0x,b1p,b2e,b0y];obtain rfl:=sI9 hm0;exact b04 vb9 (b0e _)
theorem d3m (hf:Has O "newel/situation.named" x_situation_named) (d3n:d0q O) (d3j:d0m O) (d3k:d0n O):d0p O:=by
 intro m r hm0;unfold c44 at hm0;refine b1i hf rfl (b0a (fM _) b0j) (b0e _) ?_;refine b1c (fun t h=>t 0 = .agg (vM m)) rfl fun t h s0=>?_;simp only [x_situation_named];apply b0b;intro K hK;simp only [go_sem,s0];apply hK;apply b0b;intro K hK;simp only [go_sem];refine g0d (O:=O) (e:=List.map (eM vS vI) ([]:List (ByteArray × Int))) rfl ?_;simp only [go_sem];apply hK;refine b0v ?_;obtain ⟨y2,h_y2,hm0⟩:=b0g hm0;apply b0b;intro K hK;simp only [go_sem];refine b01 (d3n m _ h_y2) ?_;simp only [go_sem];apply hK;refine b0i fun K3 hK3=>?_
 have J4:∀ (t:Slots) (h:Heap),d49=some r->K3 t h:=by
  intro t h hm0;refine hK3 _ _ ?_;unfold d49 at hm0;apply b0b;intro K hK;simp only [go_sem];apply hK;simp only [b0x,b1p,b2e,b0y];obtain rfl:=sI9 hm0;exact b04 vb9 (b0e _)
 simp only [b0u];obtain ⟨b5,hl5,hm0⟩:=b0g hm0;refine b1j hl5 (fun|(seen_3,x_10),t,h=>∃ i3:Nat,t 3 = .mp i3/\t 8 = .fs 1 (List.map eS y2)/\t 9=I (List.length y2:Int)/\t 10=I x_10/\h.ob i3=some (0,List.map (eM vS vI) seen_3)/\i3<h.nx) ?_ ?_
 ·exact ⟨h.nx,va9,va9,va9,va9,vb9,vg9⟩
 ·rintro ⟨seen_3,x_10⟩ o t h ⟨i3,s3,s8,s9,s10,Q1,Q0⟩ hm1 hb5;simp only [c1i] at hm1;rw [g5c];apply b0b;intro K hK;simp only [go_sem,s9,s10,Q0];apply hK;refine b0i fun K6 hK6=>?_;simp only [go_sem];refine b0k (fun hc7=>?_) (fun hc7=>?_)
  ·rw [b0r hc7] at hm1;simp only [b0s,b02,b0f];refine hK6 _ _ ?_;refine b0i fun K8 hK8=>?_;simp only [b0u];obtain ⟨x10,h_x10,hm1⟩:=b0g hm1;have h_x100:=b05 h_x10;have h_x101:=b06 h_x10;apply b0b;intro K hK;simp only [go_sem,s8,s10,Q0,b08 h_x10,b3n h_x10,h_x100,h_x101];apply hK;apply b0b;intro K hK;simp only [go_sem,s3,Q1,Q0];refine g0c (O:=O) (fk:=vS) (fv:=vI) (l:=seen_3) (x:=x10) (z:=0) g1s d3z ?_ ?_ ?_
   ·rfl
   ·simp only [go_sem,Q1,Q0,lA9,mA9]
   simp only [go_sem,s3,Q1,Q0];refine d2i (O:=O) (fk:=vS) (fv:=vI) (l:=seen_3) (x:=x10) (v:=(wr ((b2w seen_3 x10 0)+1))) j8d d3z ?_ ?_ ?_
   ·rfl
   ·simp only [go_sem,Q1,Q0,lA9,mA9]
   simp only [go_sem,s3,Q1,Q0];apply hK;obtain ⟨y12,h_y12,hm1⟩:=b0g hm1;refine b2p (fun t h=>t 3 = .mp i3/\t 8 = .fs 1 (List.map eS y2)/\t 9=I (List.length y2:Int)/\t 10=I x_10/\t 35=B ((((!y12) || (decide (8<(ByteArray.size x10:Int)))) || (b84 x10)) || (decide (1<(b2w (b3w seen_3 x10 (wr ((b2w seen_3 x10 0)+1))) x10 0))))/\h.ob i3=some (0,List.map (eM vS vI) (b3w seen_3 x10 (wr ((b2w seen_3 x10 0)+1))))/\i3<h.nx) (fun K hK=>?_) ?_
   ·simp only [go_sem,s3,Q1,Q0];refine b01 (d3j x10 _ h_y12) ?_;simp only [go_sem,s3,Q1,Q0];refine b0k (fun hg13=>?_) (fun hg13=>?_)
    ·simp only [go_sem,s3,Q1,Q0,hg13];exact hK _ _ ⟨s3,s8,s9,s10,(by first|(simp only [go_sem,hg13,lA9,mA9]; done)|rfl),(by simp only [go_sem,Q1,Q0,hg13,lA9,mA9]),(by simp only [go_sem,Q0])⟩
    ·simp only [go_sem,s3,Q1,Q0,hg13];refine b0k (fun hg14=>?_) (fun hg14=>?_)
     ·simp only [go_sem,s3,Q1,Q0,hg13,hg14];exact hK _ _ ⟨s3,s8,s9,s10,(by first|(simp only [go_sem,hg13,hg14,lA9,mA9]; done)|rfl),(by simp only [go_sem,Q1,Q0,hg13,hg14,lA9,mA9]),(by simp only [go_sem,Q0])⟩
     ·simp only [go_sem,s3,Q1,Q0,hg13,hg14];refine b01 (d3k x10) ?_;simp only [go_sem,s3,Q1,Q0,hg13,hg14];refine b0k (fun hg15=>?_) (fun hg15=>?_)
      ·simp only [go_sem,s3,Q1,Q0,hg13,hg14,hg15];exact hK _ _ ⟨s3,s8,s9,s10,(by first|(simp only [go_sem,hg13,hg14,hg15,lA9,mA9]; done)|rfl),(by simp only [go_sem,Q1,Q0,hg13,hg14,hg15,lA9,mA9]),(by simp only [go_sem,Q0])⟩
      ·simp only [go_sem,s3,Q1,Q0,hg13,hg14,hg15];refine g0c (O:=O) (fk:=vS) (fv:=vI) (l:=(b3w seen_3 x10 (wr ((b2w seen_3 x10 0)+1)))) (x:=x10) (z:=0) g1s d3z ?_ ?_ ?_
       ·rfl
       ·simp only [go_sem,hg13,hg14,hg15,Q1,Q0,lA9,mA9]
       simp only [go_sem,s3,Q1,Q0,hg13,hg14,hg15];exact hK _ _ ⟨s3,s8,s9,s10,(by first|(simp only [go_sem,hg13,hg14,hg15,lA9,mA9]; done)|rfl),(by simp only [go_sem,Q1,Q0,hg13,hg14,hg15,lA9,mA9]),(by simp only [go_sem,Q0])⟩
   ·rintro t h ⟨s3,s8,s9,s10,s35,Q1,Q0⟩;simp only [go_sem,s35];refine b0k (fun hc16=>?_) (fun hc16=>?_)
    ·rw [b0r hc16] at hm1;apply b0b;intro K hK;simp only [go_sem,Q0];apply hK;simp only [b0x,b1p,b2e,b0y];obtain rfl:=sI9 hm1;obtain rfl:=hb5 _ rfl
     try dsimp only at hm0
     obtain rfl:=sI9 hm0;exact b04 (by simp only [go_sem,Q1,Q0,lA9,mA9]) (b0e _)
    ·rw [b0q hc16] at hm1;simp only [b0s,b02,b0f];refine hK8 _ _ ?_;apply b03;intro K hK;simp only [go_sem,s10,Q0];apply hK;simp only [b02,b0f];obtain rfl:=sI9 hm1;refine ⟨_,rfl,?_⟩;exact ⟨i3,s3,s8,s9,(by first|(simp only [go_sem,s10,lA9,mA9]; done)|rfl),Q1,Q0⟩
  ·rw [b0q hc7] at hm1;simp only [b09,b1b,b1a,c0s,b02,b0f,Nat.reduceEqDiff,nF9];obtain rfl:=sI9 hm1;obtain rfl:=hb5 _ rfl
   try dsimp only at hm0
   exact J4  _ _  hm0
theorem d3o (hf:Has O "newel/situation.names" x_situation_names) (d3q:d0t O):d0r O:=by
 intro m r hm0;unfold c88 at hm0;refine b1i hf rfl (b0a (fM _) b0j) (b0c fun a _=>b0z a) ?_;refine b1c (fun t h=>t 0 = .agg (vM m)) rfl fun t h s0=>?_;simp only [x_situation_names];apply b0b;intro K hK;simp only [go_sem,s0];apply hK;obtain ⟨y2,h_y2,hm0⟩:=b0g hm0;apply b0b;intro K hK;simp only [go_sem];refine j4w (e:=eS) (l:=y2) ?_ (d3q ([m.Inputs,m.Outputs]) _ h_y2) ?_
 ·exact .cons (b29 (f:=b4f) (l:=([m.Inputs,m.Outputs])) (id:=h.nx) vb9 vf9 c65 g1e) (.nil)
 simp only [go_sem];apply hK;refine b0v ?_;apply b0b;intro K hK;simp only [go_sem];apply hK;refine b0i fun K3 hK3=>?_
 have J4:∀ (l_3:List ByteArray) (i3:Nat) (t:Slots) (h:Heap),t 1 = .fp (vM m) 0->t 3 = .rs i3 0 (List.length l_3)->h.ob i3=some (1,List.map eS l_3)->i3<h.nx->c9b m l_3=some r->K3 t h:=by
  intro l_3 i3 t h s1 s3 Q1 Q0 hm0;refine hK3 _ _ ?_;unfold c9b at hm0;refine b0v ?_;apply b0b;intro K hK;simp only [go_sem,s1,Q0];apply hK;refine b0i fun K5 hK5=>?_
  have J6:∀ (l_3_1:List ByteArray) (i3_1:Nat) (t:Slots) (h:Heap),t 3 = .rs i3_1 0 (List.length l_3_1)->h.ob i3_1=some (1,List.map eS l_3_1)->i3_1<h.nx->c9c l_3_1=some r->K5 t h:=by
   intro l_3_1 i3_1 t h s3 Q1 Q0 hm0;refine hK5 _ _ ?_;unfold c9c at hm0;apply b0b;intro K hK;simp only [go_sem,s3,Q1,Q0];apply hK;simp only [b0x,b1p,b2e,b0y];obtain rfl:=sI9 hm0;exact b8e (v:=.rs i3_1 0 (List.length l_3_1)) (by simp only [go_sem,Q1,Q0,lA9,mA9]) (b29 (f:=eS) (l:=l_3_1) (id:=i3_1) (by simp only [go_sem,Q1,Q0,lA9,mA9]) vf9 b0z c3u)
  simp only [b0u];obtain ⟨b7,hl7,hm0⟩:=b0g hm0;refine b1j hl7 (fun|(l_3_1,x_30),t,h=>∃ i3_1:Nat,t 3 = .rs i3_1 0 (List.length l_3_1)/\t 28 = .fs 2 (List.map b0p m.States)/\t 29=I (List.length m.States:Int)/\t 30=I x_30/\h.ob i3_1=some (1,List.map eS l_3_1)/\i3_1<h.nx) ?_ ?_
  ·exact ⟨i3,(by first|exact s3|simp only [go_sem,s3,lA9,mA9]),va9,va9,va9,Q1,Q0⟩
  ·rintro ⟨l_3_1,x_30⟩ o t h ⟨i3_1,s3,s28,s29,s30,Q1,Q0⟩ hm1 hb7;simp only [c89] at hm1;rw [d5k];apply b0b;intro K hK;simp only [go_sem,s29,s30,Q0];apply hK;refine b0i fun K8 hK8=>?_;simp only [go_sem];refine b0k (fun hc9=>?_) (fun hc9=>?_)
   ·rw [b0r hc9] at hm1;simp only [b0s,b02,b0f];refine hK8 _ _ ?_;refine b0i fun K10 hK10=>?_;simp only [b0u];obtain ⟨x12,h_x12,hm1⟩:=b0g hm1;have h_x120:=b05 h_x12;have h_x121:=b06 h_x12;apply b0b;intro K hK;simp only [go_sem,s28,s30,Q0,b08 h_x12,b3n h_x12,h_x120,h_x121];apply hK;obtain ⟨l14,h_l14,hm1⟩:=b0g hm1;apply b03;intro K hK;simp only [go_sem,s3,Q1,Q0];refine b3a (f:=eS) (l:=l_3_1) (m:=([x12.Name])) ?_ ?_ ?_ ?_ h_l14 ?_
    ·exact (b2v (by simp only [go_sem,Q1,Q0,lA9,mA9]) (by simp only [go_sem,Q1,Q0,lA9,mA9]) (by simp only [go_sem,Q0]))
    ·exact (b4t (by simp only [go_sem,Q1,Q0,lA9,mA9]) (by simp only [go_sem,Q1,Q0,lA9,mA9]))
    ·exact (b4r vd9)
    ·exact (fun _=>by simp)
    simp only [go_sem,s3,Q1,Q0];apply hK;simp only [b02,b0f];refine hK10 _ _ ?_;apply b03;intro K hK;simp only [go_sem,s30,Q0];apply hK;simp only [b02,b0f];obtain rfl:=sI9 hm1;refine ⟨_,rfl,?_⟩;exact ⟨(nxs (nxs h.nx)),(by first|(simp only [go_sem,s3,lA9,mA9]; done)|rfl),s28,s29,(by first|(simp only [go_sem,s30,lA9,mA9]; done)|rfl),(by simp only [go_sem,Q0,lA9,mA9]),vg9⟩
   ·rw [b0q hc9] at hm1;simp only [b09,b1b,b1a,c0s,b02,b0f,Nat.reduceEqDiff,nF9];obtain rfl:=sI9 hm1;obtain rfl:=hb7 _ rfl
    try dsimp only at hm0
    exact J6 l_3_1 i3_1 _ _ (by first|exact s3|simp only [go_sem,s3,lA9,mA9]) Q1 Q0 hm0
 simp only [b0u];obtain ⟨b16,hl16,hm0⟩:=b0g hm0;refine b1j hl16 (fun|(l_3,x_17),t,h=>∃ i3:Nat,t 1 = .fp (vM m) 0/\t 3 = .rs i3 0 (List.length l_3)/\t 15 = .fs 2 (List.map b0o m.Counters)/\t 16=I (List.length m.Counters:Int)/\t 17=I x_17/\h.ob i3=some (1,List.map eS l_3)/\i3<h.nx) ?_ ?_
 ·exact ⟨(nxs h.nx),va9,va9,va9,va9,va9,vb9,vg9⟩
 ·rintro ⟨l_3,x_17⟩ o t h ⟨i3,s1,s3,s15,s16,s17,Q1,Q0⟩ hm1 hb16;simp only [c9a] at hm1;rw [d5l];apply b0b;intro K hK;simp only [go_sem,s16,s17,Q0];apply hK;refine b0i fun K17 hK17=>?_;simp only [go_sem];refine b0k (fun hc18=>?_) (fun hc18=>?_)
  ·rw [b0r hc18] at hm1;simp only [b0s,b02,b0f];refine hK17 _ _ ?_;refine b0i fun K19 hK19=>?_;simp only [b0u];obtain ⟨x21,h_x21,hm1⟩:=b0g hm1;have h_x210:=b05 h_x21;have h_x211:=b06 h_x21;apply b0b;intro K hK;simp only [go_sem,s15,s17,Q0,b08 h_x21,b3n h_x21,h_x210,h_x211];apply hK;obtain ⟨l23,h_l23,hm1⟩:=b0g hm1;apply b03;intro K hK;simp only [go_sem,s3,Q1,Q0];refine b3a (f:=eS) (l:=l_3) (m:=([x21.Name])) ?_ ?_ ?_ ?_ h_l23 ?_
   ·exact (b2v (by simp only [go_sem,Q1,Q0,lA9,mA9]) (by simp only [go_sem,Q1,Q0,lA9,mA9]) (by simp only [go_sem,Q0]))
   ·exact (b4t (by simp only [go_sem,Q1,Q0,lA9,mA9]) (by simp only [go_sem,Q1,Q0,lA9,mA9]))
   ·exact (b4r vd9)
   ·exact (fun _=>by simp)
   simp only [go_sem,s3,Q1,Q0];apply hK;simp only [b02,b0f];refine hK19 _ _ ?_;apply b03;intro K hK;simp only [go_sem,s17,Q0];apply hK;simp only [b02,b0f];obtain rfl:=sI9 hm1;refine ⟨_,rfl,?_⟩;exact ⟨(nxs (nxs h.nx)),s1,(by first|(simp only [go_sem,s3,lA9,mA9]; done)|rfl),s15,s16,(by first|(simp only [go_sem,s17,lA9,mA9]; done)|rfl),(by simp only [go_sem,Q0,lA9,mA9]),vg9⟩
  ·rw [b0q hc18] at hm1;simp only [b09,b1b,b1a,c0s,b02,b0f,Nat.reduceEqDiff,nF9];obtain rfl:=sI9 hm1;obtain rfl:=hb16 _ rfl
   try dsimp only at hm0
   exact J4 l_3 i3 _ _ s1 (by first|exact s3|simp only [go_sem,s3,lA9,mA9]) Q1 Q0 hm0
theorem d3p (hf:Has O "newel/situation.names" x_situation_names) (d3r:d0u O):d0s O:=by
 intro m r hm0;unfold c9d at hm0;refine b1i hf rfl (b0a (fM _) b0j) (b0c fun a _=>b0z a) ?_;refine b1c (fun t h=>t 0 = .agg (vM m)) rfl fun t h s0=>?_;simp only [x_situation_names];apply b0b;intro K hK;simp only [go_sem,s0];apply hK;obtain ⟨y2,h_y2,hm0⟩:=b0g hm0;apply b0b;intro K hK;simp only [go_sem];refine b8l ?_ (d3r ([m.Inputs,m.Outputs]) _ h_y2) (.v _) ?_
 ·exact .cons (b29 (f:=b4f) (l:=([m.Inputs,m.Outputs])) (id:=h.nx) vb9 vf9 c65 g1e) (.nil)
 simp only [go_sem];apply hK;refine b0v ?_;apply b0b;intro K hK;simp only [go_sem];apply hK;refine b0i fun K3 hK3=>?_
 have J4:∀ (l_3:List ByteArray) (v3:AV) (t:Slots) (h:Heap),t 1 = .fp (vM m) 0->t 3=v3->b2a h v3 1 (List.map eS l_3)->c9g m l_3=some r->K3 t h:=by
  intro l_3 v3 t h s1 s3 Q2 hm0;refine hK3 _ _ ?_;unfold c9g at hm0;refine b0v ?_;apply b0b;intro K hK;simp only [go_sem,s1,b5r v3];apply hK;refine b0i fun K5 hK5=>?_
  have J6:∀ (l_3_1:List ByteArray) (v3_1:AV) (t:Slots) (h:Heap),t 3=v3_1->b2a h v3_1 1 (List.map eS l_3_1)->c9h l_3_1=some r->K5 t h:=by
   intro l_3_1 v3_1 t h s3 Q2 hm0;refine hK5 _ _ ?_;unfold c9h at hm0;apply b0b;intro K hK;simp only [go_sem,s3,l3r Q2,b5r v3,b5r v3_1];apply hK;simp only [b0x,b1p,b2e,b0y];obtain rfl:=sI9 hm0;exact b8e (v:=v3_1) (by simp only [go_sem,b8s Q2,lA9,mA9]) (r8x (f:=eS) (l:=l_3_1) (b3x Q2 (by intro j hj hl; first|rfl|simp only [go_sem,hl]) (by first|omega|exact Nat.le_refl _|(simp only [go_sem,nxs] <;> omega))) b0z c3u)
  simp only [b0u];obtain ⟨b7,hl7,hm0⟩:=b0g hm0;refine b1j hl7 (fun|(l_3_1,x_30),t,h=>∃ v3_1:AV,t 3=v3_1/\t 28 = .fs 2 (List.map b0p m.States)/\t 29=I (List.length m.States:Int)/\t 30=I x_30/\b2a h v3_1 1 (List.map eS l_3_1)) ?_ ?_
  ·exact ⟨v3,s3,va9,va9,va9,Q2⟩
  ·rintro ⟨l_3_1,x_30⟩ o t h ⟨v3_1,s3,s28,s29,s30,Q2⟩ hm1 hb7;simp only [c9e] at hm1;rw [d5k];apply b0b;intro K hK;simp only [go_sem,s29,s30,b5r v3,b5r v3_1];apply hK;refine b0i fun K8 hK8=>?_;simp only [go_sem];refine b0k (fun hc9=>?_) (fun hc9=>?_)
   ·rw [b0r hc9] at hm1;simp only [b0s,b02,b0f];refine hK8 _ _ ?_;refine b0i fun K10 hK10=>?_;simp only [b0u];obtain ⟨x12,h_x12,hm1⟩:=b0g hm1;have h_x120:=b05 h_x12;have h_x121:=b06 h_x12;apply b0b;intro K hK;simp only [go_sem,s28,s30,b08 h_x12,b3n h_x12,h_x120,h_x121,b5r v3,b5r v3_1];apply hK;obtain ⟨l14,h_l14,hm1⟩:=b0g hm1;apply b03;intro K hK;simp only [go_sem,s3,l3r Q2,b5r v3,b5r v3_1];refine b3a (f:=eS) (l:=l_3_1) (m:=([x12.Name])) ?_ ?_ ?_ ?_ h_l14 ?_
    ·exact (b3x Q2 (by intro j hj hl; first|rfl|simp only [go_sem,hl]) (by first|omega|exact Nat.le_refl _|(simp only [go_sem,nxs] <;> omega)))
    ·exact (b4t (by simp only [go_sem,b8s Q2,lA9,mA9]) (by simp only [go_sem,b8s Q2,lA9,mA9]))
    ·exact (b4r vd9)
    ·exact (fun _=>by simp)
    simp only [go_sem,s3,l3r Q2,b5r v3,b5r v3_1];apply hK;simp only [b02,b0f];refine hK10 _ _ ?_;apply b03;intro K hK;simp only [go_sem,s30,b5r v3,b5r v3_1];apply hK;simp only [b02,b0f];obtain rfl:=sI9 hm1;refine ⟨_,rfl,?_⟩;exact ⟨(.rs (nxs (nxs h.nx)) 0 (List.length l14)),(by first|(simp only [go_sem,s3,lA9,mA9]; done)|rfl),s28,s29,(by first|(simp only [go_sem,s30,lA9,mA9]; done)|rfl),(b2v (by simp only [go_sem,b8s Q2,lA9,mA9]) vf9 vg9)⟩
   ·rw [b0q hc9] at hm1;simp only [b09,b1b,b1a,c0s,b02,b0f,Nat.reduceEqDiff,nF9];obtain rfl:=sI9 hm1;obtain rfl:=hb7 _ rfl
    try dsimp only at hm0
    exact J6 l_3_1 v3_1 _ _ s3 Q2 hm0
 simp only [b0u];obtain ⟨b16,hl16,hm0⟩:=b0g hm0;refine b1j hl16 (fun|(l_3,x_17),t,h=>∃ v3:AV,t 1 = .fp (vM m) 0/\t 3=v3/\t 15 = .fs 2 (List.map b0o m.Counters)/\t 16=I (List.length m.Counters:Int)/\t 17=I x_17/\b2a h v3 1 (List.map eS l_3)) ?_ ?_
 ·exact ⟨(.v (.slice none 0 0)),va9,va9,va9,va9,va9,c0o⟩
 ·rintro ⟨l_3,x_17⟩ o t h ⟨v3,s1,s3,s15,s16,s17,Q2⟩ hm1 hb16;simp only [c9f] at hm1;rw [d5l];apply b0b;intro K hK;simp only [go_sem,s16,s17,b5r v3];apply hK;refine b0i fun K17 hK17=>?_;simp only [go_sem];refine b0k (fun hc18=>?_) (fun hc18=>?_)
  ·rw [b0r hc18] at hm1;simp only [b0s,b02,b0f];refine hK17 _ _ ?_;refine b0i fun K19 hK19=>?_;simp only [b0u];obtain ⟨x21,h_x21,hm1⟩:=b0g hm1;have h_x210:=b05 h_x21;have h_x211:=b06 h_x21;apply b0b;intro K hK;simp only [go_sem,s15,s17,b08 h_x21,b3n h_x21,h_x210,h_x211,b5r v3];apply hK;obtain ⟨l23,h_l23,hm1⟩:=b0g hm1;apply b03;intro K hK;simp only [go_sem,s3,l3r Q2,b5r v3];refine b3a (f:=eS) (l:=l_3) (m:=([x21.Name])) ?_ ?_ ?_ ?_ h_l23 ?_
   ·exact (b3x Q2 (by intro j hj hl; first|rfl|simp only [go_sem,hl]) (by first|omega|exact Nat.le_refl _|(simp only [go_sem,nxs] <;> omega)))
   ·exact (b4t (by simp only [go_sem,b8s Q2,lA9,mA9]) (by simp only [go_sem,b8s Q2,lA9,mA9]))
   ·exact (b4r vd9)
   ·exact (fun _=>by simp)
   simp only [go_sem,s3,l3r Q2,b5r v3];apply hK;simp only [b02,b0f];refine hK19 _ _ ?_;apply b03;intro K hK;simp only [go_sem,s17,b5r v3];apply hK;simp only [b02,b0f];obtain rfl:=sI9 hm1;refine ⟨_,rfl,?_⟩;exact ⟨(.rs (nxs (nxs h.nx)) 0 (List.length l23)),s1,(by first|(simp only [go_sem,s3,lA9,mA9]; done)|rfl),s15,s16,(by first|(simp only [go_sem,s17,lA9,mA9]; done)|rfl),(b2v (by simp only [go_sem,b8s Q2,lA9,mA9]) vf9 vg9)⟩
  ·rw [b0q hc18] at hm1;simp only [b09,b1b,b1a,c0s,b02,b0f,Nat.reduceEqDiff,nF9];obtain rfl:=sI9 hm1;obtain rfl:=hb16 _ rfl
   try dsimp only at hm0
   exact J4 l_3 v3 _ _ s1 s3 Q2 hm0
theorem b8n (hf:Has O "slices.ContainsFunc[newel/api.Term,newel/api.Literal]" x_slices_ContainsFunc_api_Term_api_Literal_) (d3w:d0z O):c1o O:=by
 intro s f_n f_a f_b f f_z f_h r hm0;unfold b7t at hm0;refine b1i hf rfl (b0a (b0c fun a _=>c2w a) (b0a f_z b0j)) (b0e _) ?_;refine b1c (fun t h=>t 0 = .fs 4 (List.map b3k s)/\t 1 = .fn f_n f_a f_b) ⟨rfl,rfl⟩ fun t h ⟨s0,s1⟩=>?_;simp only [x_slices_ContainsFunc_api_Term_api_Literal_];apply b0b;intro K hK;simp only [go_sem];apply hK;obtain ⟨y2,h_y2,hm0⟩:=b0g hm0;apply b0b;intro K hK;simp only [go_sem,s0,s1];refine b01 (d3w s f_n f_a f_b f f_z f_h _ h_y2) ?_;simp only [go_sem,s0,s1];apply hK;simp only [b0x,b1p,b2e,b0y];obtain rfl:=sI9 hm0;exact b04 vb9 (b0e _)
theorem d3v (hf:Has O "slices.IndexFunc[newel/api.Cond,newel/api.Term]" x_slices_IndexFunc_api_Cond_api_Term_):d0y O:=by
 intro s f_n f_a f_b f f_z f_h r hm0;unfold d5c at hm0;refine b1i hf rfl (b0a (b0c fun a _=>b2j a) (b0a f_z b0j)) (b0e _) ?_;refine b1c (fun t h=>t 0 = .fs 1 (List.map b0t s)/\t 1 = .fn f_n f_a f_b) ⟨rfl,rfl⟩ fun t h ⟨s0,s1⟩=>?_;simp only [x_slices_IndexFunc_api_Cond_api_Term_];apply b0b;intro K hK;simp only [go_sem];apply hK;refine b0v ?_;apply b0b;intro K hK;simp only [go_sem,s0];apply hK;refine b0i fun K1 hK1=>?_
 have J2:∀ (t:Slots) (h:Heap),d5d=some r->K1 t h:=by
  intro t h hm0;refine hK1 _ _ ?_;unfold d5d at hm0;apply b0b;intro K hK;simp only [go_sem];apply hK;simp only [b0x,b1p,b2e,b0y];obtain rfl:=sI9 hm0;exact b04 vb9 (b0e _)
 simp only [b0u];obtain ⟨b3,hl3,hm0⟩:=b0g hm0;refine b1j hl3 (fun|x_8,t,h=>t 0 = .fs 1 (List.map b0t s)/\t 1 = .fn f_n f_a f_b/\t 7=I (List.length s:Int)/\t 8=I x_8) ?_ ?_
 ·exact ⟨s0,s1,va9,va9⟩
 ·rintro x_8 o t h ⟨s0,s1,s7,s8⟩ hm1 hb3;simp only [g3d] at hm1;rw [g5e];apply b0b;intro K hK;simp only [go_sem,s7,s8];apply hK;refine b0i fun K4 hK4=>?_;simp only [go_sem];refine b0k (fun hc5=>?_) (fun hc5=>?_)
  ·rw [b0r hc5] at hm1;simp only [b0s,b02,b0f];refine hK4 _ _ ?_;refine b0i fun K6 hK6=>?_;simp only [b0u];apply b0b;intro K hK;simp only [go_sem,s8];apply hK;obtain ⟨x9,h_x9,hm1⟩:=b0g hm1;have h_x90:=b05 h_x9;have h_x91:=b06 h_x9;obtain ⟨y10,h_y10,hm1⟩:=b0g hm1;apply b0b;intro K hK;simp only [go_sem,s0,s1,b08 h_x9,b3n h_x9,h_x90,h_x91];refine o5t (f_h x9 _ h_y10) ?_;simp only [go_sem,s0,s1,b08 h_x9,b3n h_x9,h_x90,h_x91];apply hK;simp only [go_sem];refine b0k (fun hc11=>?_) (fun hc11=>?_)
   ·rw [b0r hc11] at hm1;apply b0b;intro K hK;simp only [go_sem];apply hK;simp only [b0x,b1p,b2e,b0y];obtain rfl:=sI9 hm1;obtain rfl:=hb3 _ rfl
    try dsimp only at hm0
    obtain rfl:=sI9 hm0;exact b04 vb9 (b0e _)
   ·rw [b0q hc11] at hm1;simp only [b0s,b02,b0f];refine hK6 _ _ ?_;apply b03;intro K hK;simp only [go_sem,s8];apply hK;simp only [b02,b0f];obtain rfl:=sI9 hm1;refine ⟨_,rfl,?_⟩;exact ⟨s0,s1,s7,(by first|(simp only [go_sem,s8,lA9,mA9]; done)|rfl)⟩
  ·rw [b0q hc5] at hm1;simp only [b09,b1b,b1a,c0s,b02,b0f,Nat.reduceEqDiff,nF9];obtain rfl:=sI9 hm1;obtain rfl:=hb3 _ rfl
   try dsimp only at hm0
   exact J2  _ _  hm0
theorem d3w (hf:Has O "slices.IndexFunc[newel/api.Term,newel/api.Literal]" x_slices_IndexFunc_api_Term_api_Literal_):d0z O:=by
 intro s f_n f_a f_b f f_z f_h r hm0;unfold d5e at hm0;refine b1i hf rfl (b0a (b0c fun a _=>c2w a) (b0a f_z b0j)) (b0e _) ?_;refine b1c (fun t h=>t 0 = .fs 4 (List.map b3k s)/\t 1 = .fn f_n f_a f_b) ⟨rfl,rfl⟩ fun t h ⟨s0,s1⟩=>?_;simp only [x_slices_IndexFunc_api_Term_api_Literal_];apply b0b;intro K hK;simp only [go_sem];apply hK;refine b0v ?_;apply b0b;intro K hK;simp only [go_sem,s0];apply hK;refine b0i fun K1 hK1=>?_
 have J2:∀ (t:Slots) (h:Heap),d5f=some r->K1 t h:=by
  intro t h hm0;refine hK1 _ _ ?_;unfold d5f at hm0;apply b0b;intro K hK;simp only [go_sem];apply hK;simp only [b0x,b1p,b2e,b0y];obtain rfl:=sI9 hm0;exact b04 vb9 (b0e _)
 simp only [b0u];obtain ⟨b3,hl3,hm0⟩:=b0g hm0;refine b1j hl3 (fun|x_8,t,h=>t 0 = .fs 4 (List.map b3k s)/\t 1 = .fn f_n f_a f_b/\t 7=I (List.length s:Int)/\t 8=I x_8) ?_ ?_
 ·exact ⟨s0,s1,va9,va9⟩
 ·rintro x_8 o t h ⟨s0,s1,s7,s8⟩ hm1 hb3;simp only [g3e] at hm1;rw [g5f];apply b0b;intro K hK;simp only [go_sem,s7,s8];apply hK;refine b0i fun K4 hK4=>?_;simp only [go_sem];refine b0k (fun hc5=>?_) (fun hc5=>?_)
  ·rw [b0r hc5] at hm1;simp only [b0s,b02,b0f];refine hK4 _ _ ?_;refine b0i fun K6 hK6=>?_;simp only [b0u];apply b0b;intro K hK;simp only [go_sem,s8];apply hK;obtain ⟨x9,h_x9,hm1⟩:=b0g hm1;have h_x90:=b05 h_x9;have h_x91:=b06 h_x9;obtain ⟨y10,h_y10,hm1⟩:=b0g hm1;apply b0b;intro K hK;simp only [go_sem,s0,s1,b08 h_x9,b3n h_x9,h_x90,h_x91];refine o5t (f_h x9 _ h_y10) ?_;simp only [go_sem,s0,s1,b08 h_x9,b3n h_x9,h_x90,h_x91];apply hK;simp only [go_sem];refine b0k (fun hc11=>?_) (fun hc11=>?_)
   ·rw [b0r hc11] at hm1;apply b0b;intro K hK;simp only [go_sem];apply hK;simp only [b0x,b1p,b2e,b0y];obtain rfl:=sI9 hm1;obtain rfl:=hb3 _ rfl
    try dsimp only at hm0
    obtain rfl:=sI9 hm0;exact b04 vb9 (b0e _)
   ·rw [b0q hc11] at hm1;simp only [b0s,b02,b0f];refine hK6 _ _ ?_;apply b03;intro K hK;simp only [go_sem,s8];apply hK;simp only [b02,b0f];obtain rfl:=sI9 hm1;refine ⟨_,rfl,?_⟩;exact ⟨s0,s1,s7,(by first|(simp only [go_sem,s8,lA9,mA9]; done)|rfl)⟩
  ·rw [b0q hc5] at hm1;simp only [b09,b1b,b1a,c0s,b02,b0f,Nat.reduceEqDiff,nF9];obtain rfl:=sI9 hm1;obtain rfl:=hb3 _ rfl
   try dsimp only at hm0
   exact J2  _ _  hm0
end Go.Nw.AM
