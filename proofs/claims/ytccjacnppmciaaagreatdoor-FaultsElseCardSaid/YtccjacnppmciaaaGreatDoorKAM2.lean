/- That the texts make what their models say: printed by a program. -/
import Derived.Test.YtccjacnppmciaaaGreatDoorAM
set_option linter.all false
namespace Go.Nw.AM
open Go.Nw.Acc
set_option maxHeartbeats 4000000
variable {O:Orac} [MapsOk O]
theorem s3y (hf:Has O "newel/newelref04.Holds" x_r04_Holds) (d3e:d0h O):b9a O:=by
 intro m p input c r hm0;unfold b7o at hm0;refine b1i hf rfl (b0a (fM _) (b0a (.agg _ (b0a (b0e _) (b0a (b0e _) (b0a (b0e _) b0j)))) (b0a (b0e _) (b0a (b0c fun a _=>b2j a) b0j)))) (b0e _) ?_;refine b1c (fun t h=>t 0 = .agg (vM m)/\t 1 = .agg [I p.State,I p.Values.1,I p.Values.2]/\t 2=I input/\t 3 = .fs 1 (List.map b0t c)) ⟨rfl,rfl,rfl,rfl⟩ fun t h ⟨s0,s1,s2,s3⟩=>?_;simp only [x_r04_Holds];apply b0b;intro K hK;simp only [go_sem,s0,s1];apply hK;refine b0v ?_;apply b0b;intro K hK;simp only [go_sem];apply hK;refine b0i fun K1 hK1=>?_
 have J2:∀ (t:Slots) (h:Heap),d4q=some r->K1 t h:=by
  intro t h hm0;refine hK1 _ _ ?_;unfold d4q at hm0;apply b0b;intro K hK;simp only [go_sem];apply hK;simp only [b0x,b1p,b2e,b0y];obtain rfl:=sI9 hm0;exact b04 vb9 (b0e _)
 simp only [b0u];obtain ⟨b3,hl3,hm0⟩:=b0g hm0;refine b1j hl3 (fun|i_9,t,h=>t 2=I input/\t 3 = .fs 1 (List.map b0t c)/\t 4 = .fp (vM m) 0/\t 5 = .fp [I p.State,I p.Values.1,I p.Values.2] 0/\t 9=I i_9) ?_ ?_
 ·exact ⟨s2,s3,va9,va9,va9⟩
 ·rintro i_9 o t h ⟨s2,s3,s4,s5,s9⟩ hm1 hb3;simp only [c4d] at hm1;rw [g4n];refine b0v ?_;apply b0b;intro K hK;simp only [go_sem,s3,s9];apply hK;refine b0i fun K4 hK4=>?_;simp only [go_sem];refine b0k (fun hc5=>?_) (fun hc5=>?_)
  ·rw [b0r hc5] at hm1;simp only [b0s,b02,b0f];refine hK4 _ _ ?_;refine b0i fun K6 hK6=>?_
   have J7:∀ (t:Slots) (h:Heap),t 2=I input->t 3 = .fs 1 (List.map b0t c)->t 4 = .fp (vM m) 0->t 5 = .fp [I p.State,I p.Values.1,I p.Values.2] 0->t 9=I i_9->c8e i_9=some o->K6 t h:=by
    intro t h s2 s3 s4 s5 s9 hm1;refine hK6 _ _ ?_;unfold c8e at hm1;apply b03;intro K hK;simp only [go_sem,s9];apply hK;simp only [b02,b0f];obtain rfl:=sI9 hm1;refine ⟨_,rfl,?_⟩;exact ⟨s2,s3,s4,s5,(by first|(simp only [go_sem,s9,lA9,mA9]; done)|rfl)⟩
   simp only [b0u];apply b0b;intro K hK;simp only [go_sem];apply hK;refine b0v ?_;apply b0b;intro K hK;simp only [go_sem];apply hK;refine b0i fun K8 hK8=>?_
   have J9:∀ (all_10:Bool) (t:Slots) (h:Heap),t 2=I input->t 3 = .fs 1 (List.map b0t c)->t 4 = .fp (vM m) 0->t 5 = .fp [I p.State,I p.Values.1,I p.Values.2] 0->t 9=I i_9->t 10=B all_10->c8f i_9 all_10=some o->K8 t h:=by
    intro all_10 t h s2 s3 s4 s5 s9 s10 hm1;refine hK8 _ _ ?_;unfold c8f at hm1;apply b0b;intro K hK;simp only [go_sem,s10];apply hK;simp only [go_sem];refine b0k (fun hc10=>?_) (fun hc10=>?_)
    ·rw [b0r hc10] at hm1;apply b0b;intro K hK;simp only [go_sem];apply hK;simp only [b0x,b1p,b2e,b0y];obtain rfl:=sI9 hm1;obtain rfl:=hb3 _ rfl
     try dsimp only at hm0
     obtain rfl:=sI9 hm0;exact b04 vb9 (b0e _)
    ·rw [b0q hc10] at hm1;simp only [b0s,b02,b0f];exact J7  _ _ s2 s3 s4 s5 s9 hm1
   simp only [b0u];obtain ⟨b11,hl11,hm1⟩:=b0g hm1;refine b1j hl11 (fun|(all_10,k_11),t,h=>t 2=I input/\t 3 = .fs 1 (List.map b0t c)/\t 4 = .fp (vM m) 0/\t 5 = .fp [I p.State,I p.Values.1,I p.Values.2] 0/\t 9=I i_9/\t 10=B all_10/\t 11=I k_11) ?_ ?_
   ·exact ⟨s2,s3,s4,s5,s9,va9,va9⟩
   ·rintro ⟨all_10,k_11⟩ o t h ⟨s2,s3,s4,s5,s9,s10,s11⟩ hm2 hb11;simp only [c4e] at hm2;rw [g4o];refine b0v ?_;obtain ⟨x13,h_x13,hm2⟩:=b0g hm2;have h_x130:=b05 h_x13;have h_x131:=b06 h_x13;apply b0b;intro K hK;simp only [go_sem,s3,s9,s11,b08 h_x13,b3n h_x13,h_x130,h_x131];apply hK;refine b0i fun K14 hK14=>?_;simp only [go_sem];refine b0k (fun hc15=>?_) (fun hc15=>?_)
    ·rw [b0r hc15] at hm2;simp only [b0s,b02,b0f];refine hK14 _ _ ?_;refine b0i fun K16 hK16=>?_;simp only [b0u];obtain ⟨c22,h_c22,hm2⟩:=b0g hm2;refine b9y (fun t h=>t 2=I input/\t 3 = .fs 1 (List.map b0t c)/\t 4 = .fp (vM m) 0/\t 5 = .fp [I p.State,I p.Values.1,I p.Values.2] 0/\t 9=I i_9/\t 10=B c22/\t 11=I k_11) (fun K hK=>?_) ?_
     ·simp only [go_sem,s2,s3,s4,s5,s9,s10,s11,b08 h_x13,b3n h_x13,h_x130,h_x131];refine b0k (fun hg23=>?_) (fun hg23=>?_)
      ·simp only [hg23,Bool.not_true,Bool.not_false,eq_self,if_true,if_false,Bool.true_or,Bool.or_true,Bool.false_or,Bool.or_false,Bool.true_and,Bool.and_true,Bool.false_and,Bool.and_false,fT9] at h_c22;obtain ⟨x20,h_x20,h_c22⟩:=b0g h_c22;have h_x200:=b05 h_x20;have h_x201:=b06 h_x20;obtain ⟨y21,h_y21,h_c22⟩:=b0g h_c22;obtain rfl:=sI9 h_c22;simp only [go_sem,s2,s3,s4,s5,s9,s10,s11,b08 h_x20,b3n h_x20,h_x200,h_x201,b08 h_x13,b3n h_x13,h_x130,h_x131,hg23];refine b01 (d3e m p input x20 _ h_y21) ?_;simp only [go_sem,s2,s3,s4,s5,s9,s10,s11,b08 h_x20,b3n h_x20,h_x200,h_x201,b08 h_x13,b3n h_x13,h_x130,h_x131,hg23];exact hK _ _ ⟨s2,s3,s4,s5,s9,(by first|(simp only [go_sem,s10,hg23,lA9,mA9]; done)|rfl),s11⟩
      ·simp only [hg23,Bool.not_true,Bool.not_false,eq_self,if_true,if_false,Bool.true_or,Bool.or_true,Bool.false_or,Bool.or_false,Bool.true_and,Bool.and_true,Bool.false_and,Bool.and_false,fT9] at h_c22;obtain rfl:=sI9 h_c22;simp only [go_sem,s2,s3,s4,s5,s9,s10,s11,b08 h_x13,b3n h_x13,h_x130,h_x131,hg23];exact hK _ _ ⟨s2,s3,s4,s5,s9,(by first|(simp only [go_sem,s10,hg23,lA9,mA9]; done)|rfl),s11⟩
     ·rintro t h ⟨s2,s3,s4,s5,s9,s10,s11⟩;simp only [b02,b0f];refine hK16 _ _ ?_;apply b03;intro K hK;simp only [go_sem,s11];apply hK;simp only [b02,b0f];obtain rfl:=sI9 hm2;refine ⟨_,rfl,?_⟩;exact ⟨s2,s3,s4,s5,s9,s10,(by first|(simp only [go_sem,s11,lA9,mA9]; done)|rfl)⟩
    ·rw [b0q hc15] at hm2;simp only [b09,b1b,b1a,c0s,b02,b0f,Nat.reduceEqDiff,nF9];obtain rfl:=sI9 hm2;obtain rfl:=hb11 _ rfl
     try dsimp only at hm1
     exact J9 all_10 _ _ s2 s3 s4 s5 s9 s10 hm1
  ·rw [b0q hc5] at hm1;simp only [b09,b1b,b1a,c0s,b02,b0f,Nat.reduceEqDiff,nF9];obtain rfl:=sI9 hm1;obtain rfl:=hb3 _ rfl
   try dsimp only at hm0
   exact J2  _ _  hm0
theorem o8i (hf:Has O "newel/newelref04.IsPlace" x_r04_IsPlace) (b4p:c5r O):o8d O:=by
 intro m p r hm0;unfold o7y at hm0;refine b1i hf rfl (b0a (fM _) (b0a (.agg _ (b0a (b0e _) (b0a (b0e _) (b0a (b0e _) b0j)))) b0j)) (b0e _) ?_;refine b1c (fun t h=>t 0 = .agg (vM m)/\t 1 = .agg [I p.State,I p.Values.1,I p.Values.2]) ⟨rfl,rfl⟩ fun t h ⟨s0,s1⟩=>?_;simp only [x_r04_IsPlace];apply b0b;intro K hK;simp only [go_sem,s0,s1];apply hK;refine b0v ?_;apply b0b;intro K hK;simp only [go_sem];refine b01 (b4p p.State 0 (wr ((List.length m.States:Int) - 1))) ?_;simp only [go_sem];apply hK;refine b0i fun K1 hK1=>?_;simp only [go_sem];refine b0k (fun hc2=>?_) (fun hc2=>?_)
 ·rw [b0r hc2] at hm0;apply b0b;intro K hK;simp only [go_sem];apply hK;simp only [b0x,b1p,b2e,b0y];obtain rfl:=sI9 hm0;exact b04 vb9 (b0e _)
 ·rw [b0q hc2] at hm0;simp only [b0s,b02,b0f];refine hK1 _ _ ?_;refine b0v ?_;apply b0b;intro K hK;simp only [go_sem];apply hK;refine b0i fun K3 hK3=>?_
  have J4:∀ (t:Slots) (h:Heap),o77=some r->K3 t h:=by
   intro t h hm0;refine hK3 _ _ ?_;unfold o77 at hm0;apply b0b;intro K hK;simp only [go_sem];apply hK;simp only [b0x,b1p,b2e,b0y];obtain rfl:=sI9 hm0;exact b04 vb9 (b0e _)
  simp only [b0u];obtain ⟨b5,hl5,hm0⟩:=b0g hm0;refine b1j hl5 (fun|i_5,t,h=>t 2 = .fp (vM m) 0/\t 3 = .fp [I p.State,I p.Values.1,I p.Values.2] 0/\t 5=I i_5) ?_ ?_
  ·exact ⟨va9,va9,va9⟩
  ·rintro i_5 o t h ⟨s2,s3,s5⟩ hm1 hb5;simp only [o7z] at hm1;rw [o8y];refine b0v ?_;apply b0b;intro K hK;simp only [go_sem,s5];apply hK;refine b0i fun K6 hK6=>?_;simp only [go_sem];refine b0k (fun hc7=>?_) (fun hc7=>?_)
   ·rw [b0r hc7] at hm1;simp only [b0s,b02,b0f];refine hK6 _ _ ?_;refine b0i fun K8 hK8=>?_;simp only [b0u];apply b0b;intro K hK;simp only [go_sem];apply hK;refine b0v ?_;apply b0b;intro K hK;simp only [go_sem,s2,s5];apply hK;refine b0i fun K9 hK9=>?_
    have J10:∀ (most_6:Int) (t:Slots) (h:Heap),t 2 = .fp (vM m) 0->t 3 = .fp [I p.State,I p.Values.1,I p.Values.2] 0->t 5=I i_5->t 6=I most_6->o70 p i_5 most_6=some o->K9 t h:=by
     intro most_6 t h s2 s3 s5 s6 hm1;refine hK9 _ _ ?_;unfold o70 at hm1;obtain ⟨x12,h_x12,hm1⟩:=b0g hm1;have ha_x12:∀ v:Int,List.take (1+Int.toNat (i_5)) [I p.State,I p.Values.1,I p.Values.2]++[I v]++List.drop (1+Int.toNat (i_5)) [I p.Values.1,I p.Values.2]=[I p.State,I (b1n (i_5) 0 v p.Values.1),I (b1n (i_5) 1 v p.Values.2)]:=fun v=>(c1e (cs:=[I p.State,I p.Values.1,I p.Values.2]) (off:=1) (v:=v) h_x12 rfl).trans (by rw [c1d h_x12]; rfl);have hb_x12:1+Int.toNat (i_5)+1<=3:=Nat.le_trans (Nat.add_le_add_left (c0a h_x12) 1) (by simp);apply b0b;intro K hK;simp only [go_sem,s3,s5,s6,d94 (n:=2) (l:=[p.Values.1,p.Values.2]) h_x12 rfl,c7f (n:=2) (l:=[p.Values.1,p.Values.2]) h_x12 rfl,c0c (cs:=[I p.State,I p.Values.1,I p.Values.2]) (off:=1) h_x12 rfl,ha_x12,hb_x12];refine b01 (b4p x12 0 most_6) ?_;simp only [go_sem,s3,s5,s6,d94 (n:=2) (l:=[p.Values.1,p.Values.2]) h_x12 rfl,c7f (n:=2) (l:=[p.Values.1,p.Values.2]) h_x12 rfl,c0c (cs:=[I p.State,I p.Values.1,I p.Values.2]) (off:=1) h_x12 rfl,ha_x12,hb_x12];apply hK;simp only [go_sem];refine b0k (fun hc13=>?_) (fun hc13=>?_)
     ·rw [b0r hc13] at hm1;apply b0b;intro K hK;simp only [go_sem];apply hK;simp only [b0x,b1p,b2e,b0y];obtain rfl:=sI9 hm1;obtain rfl:=hb5 _ rfl
      try dsimp only at hm0
      obtain rfl:=sI9 hm0;exact b04 vb9 (b0e _)
     ·rw [b0q hc13] at hm1;simp only [b0s,b02,b0f];refine hK8 _ _ ?_;apply b03;intro K hK;simp only [go_sem,s5];apply hK;simp only [b02,b0f];obtain rfl:=sI9 hm1;refine ⟨_,rfl,?_⟩;exact ⟨s2,s3,(by first|(simp only [go_sem,s5,lA9,mA9]; done)|rfl)⟩
    simp only [go_sem];refine b0k (fun hc14=>?_) (fun hc14=>?_)
    ·rw [b0r hc14] at hm1;obtain ⟨x16,h_x16,hm1⟩:=b0g hm1;have h_x160:=b05 h_x16;have h_x161:=b06 h_x16;apply b03;intro K hK;simp only [go_sem,s2,s5,b08 h_x16,b3n h_x16,h_x160,h_x161];apply hK;simp only [b02,b0f];exact J10 x16.Max _ _ s2 s3 s5 va9 hm1
    ·rw [b0q hc14] at hm1;simp only [b0s,b02,b0f];exact J10 0 _ _ s2 s3 s5 va9 hm1
   ·rw [b0q hc7] at hm1;simp only [b09,b1b,b1a,c0s,b02,b0f,Nat.reduceEqDiff,nF9];obtain rfl:=sI9 hm1;obtain rfl:=hb5 _ rfl
    try dsimp only at hm0
    exact J4  _ _  hm0
theorem d3d (hf:Has O "newel/newelref04.Word" x_r04_Word):d0g O:=by
 intro s r hm0;unfold c02 at hm0;refine b1i hf rfl (b0a (b0e _) b0j) (b0e _) ?_;refine b1c (fun t h=>t 0 = .v (.string s)) rfl fun t h s0=>?_;simp only [x_r04_Word];apply b0b;intro K hK;simp only [go_sem];apply hK;refine b0v ?_;apply b0b;intro K hK;simp only [go_sem];apply hK;refine b0i fun K1 hK1=>?_
 have J2:∀ (t:Slots) (h:Heap),t 0 = .v (.string s)->c8o s=some r->K1 t h:=by
  intro t h s0 hm0;refine hK1 _ _ ?_;unfold c8o at hm0;refine b0v ?_;apply b0b;intro K hK;simp only [go_sem];apply hK;refine b0i fun K3 hK3=>?_
  have J4:∀ (t:Slots) (h:Heap),t 0 = .v (.string s)->d4r s=some r->K3 t h:=by
   intro t h s0 hm0;refine hK3 _ _ ?_;unfold d4r at hm0;apply b0b;intro K hK;simp only [go_sem,s0];apply hK;simp only [b0x,b1p,b2e,b0y];obtain rfl:=sI9 hm0;exact b04 vb9 (b0e _)
  simp only [b0u];obtain ⟨b5,hl5,hm0⟩:=b0g hm0;refine b1j hl5 (fun|i_4,t,h=>t 0 = .v (.string s)/\t 4=I i_4) ?_ ?_
  ·exact ⟨s0,va9⟩
  ·rintro i_4 o t h ⟨s0,s4⟩ hm1 hb5;simp only [c4i] at hm1;rw [g4w];refine b0v ?_;apply b0b;intro K hK;simp only [go_sem,s0,s4];apply hK;refine b0i fun K6 hK6=>?_;simp only [go_sem];refine b0k (fun hc7=>?_) (fun hc7=>?_)
   ·rw [b0r hc7] at hm1;simp only [b0s,b02,b0f];refine hK6 _ _ ?_;refine b0i fun K8 hK8=>?_;simp only [b0u];obtain ⟨x10,h_x10,hm1⟩:=b0g hm1;refine b2p (fun t h=>t 0 = .v (.string s)/\t 4=I i_4/\t 32=B ((decide (x10<97)) || (decide (122<x10)))) (fun K hK=>?_) ?_
    ·simp only [go_sem,s0,s4,d95 h_x10];refine b0k (fun hg11=>?_) (fun hg11=>?_)
     ·simp only [go_sem,s0,s4,d95 h_x10,hg11];exact hK _ _ ⟨s0,s4,(by first|(simp only [go_sem,hg11,lA9,mA9]; done)|rfl)⟩
     ·simp only [go_sem,s0,s4,d95 h_x10,hg11];exact hK _ _ ⟨s0,s4,(by first|(simp only [go_sem,hg11,lA9,mA9]; done)|rfl)⟩
    ·rintro t h ⟨s0,s4,s32⟩;simp only [go_sem,s32];refine b0k (fun hc12=>?_) (fun hc12=>?_)
     ·rw [b0r hc12] at hm1;apply b0b;intro K hK;simp only [go_sem];apply hK;simp only [b0x,b1p,b2e,b0y];obtain rfl:=sI9 hm1;obtain rfl:=hb5 _ rfl
      try dsimp only at hm0
      obtain rfl:=sI9 hm0;exact b04 vb9 (b0e _)
     ·rw [b0q hc12] at hm1;simp only [b0s,b02,b0f];refine hK8 _ _ ?_;apply b03;intro K hK;simp only [go_sem,s4];apply hK;simp only [b02,b0f];obtain rfl:=sI9 hm1;refine ⟨_,rfl,?_⟩;exact ⟨s0,(by first|(simp only [go_sem,s4,lA9,mA9]; done)|rfl)⟩
   ·rw [b0q hc7] at hm1;simp only [b09,b1b,b1a,c0s,b02,b0f,Nat.reduceEqDiff,nF9];obtain rfl:=sI9 hm1;obtain rfl:=hb5 _ rfl
    try dsimp only at hm0
    exact J4  _ _ s0 hm0
 simp only [b0u];obtain ⟨b14,hl14,hm0⟩:=b0g hm0;refine b1j hl14 (fun|i_3,t,h=>t 0 = .v (.string s)/\t 3=I i_3) ?_ ?_
 ·exact ⟨s0,va9⟩
 ·rintro i_3 o t h ⟨s0,s3⟩ hm1 hb14;simp only [c4j] at hm1;rw [g4x];refine b0v ?_;apply b0b;intro K hK;simp only [go_sem,s3];apply hK;refine b0i fun K15 hK15=>?_;simp only [go_sem];refine b0k (fun hc16=>?_) (fun hc16=>?_)
  ·rw [b0r hc16] at hm1;simp only [b0s,b02,b0f];refine hK15 _ _ ?_;refine b0i fun K17 hK17=>?_;simp only [b0u];obtain ⟨x19,h_x19,hm1⟩:=b0g hm1;have h_x190:=b05 h_x19;have h_x191:=b06 h_x19;apply b0b;intro K hK;simp only [go_sem,s0,s3,b08 h_x19,b3n h_x19,h_x190,h_x191];apply hK;simp only [go_sem];refine b0k (fun hc20=>?_) (fun hc20=>?_)
   ·rw [b0r hc20] at hm1;apply b0b;intro K hK;simp only [go_sem];apply hK;simp only [b0x,b1p,b2e,b0y];obtain rfl:=sI9 hm1;obtain rfl:=hb14 _ rfl
    try dsimp only at hm0
    obtain rfl:=sI9 hm0;exact b04 vb9 (b0e _)
   ·rw [b0q hc20] at hm1;simp only [b0s,b02,b0f];refine hK17 _ _ ?_;apply b03;intro K hK;simp only [go_sem,s3];apply hK;simp only [b02,b0f];obtain rfl:=sI9 hm1;refine ⟨_,rfl,?_⟩;exact ⟨s0,(by first|(simp only [go_sem,s3,lA9,mA9]; done)|rfl)⟩
  ·rw [b0q hc16] at hm1;simp only [b09,b1b,b1a,c0s,b02,b0f,Nat.reduceEqDiff,nF9];obtain rfl:=sI9 hm1;obtain rfl:=hb14 _ rfl
   try dsimp only at hm0
   exact J2  _ _ s0 hm0
theorem c3m (hf:Has O "newel/newelref04.condition" x_r04_condition) (b4p:c5r O):c5p O:=by
 intro m c inside r hm0;unfold c04 at hm0;refine b1i hf rfl (b0a (fM _) (b0a (b0c fun a _=>b2j a) (b0a (b0e _) b0j))) (b0e _) ?_;refine b1c (fun t h=>t 0 = .agg (vM m)/\t 1 = .fs 1 (List.map b0t c)/\t 2=B inside) ⟨rfl,rfl,rfl⟩ fun t h ⟨s0,s1,s2⟩=>?_;simp only [x_r04_condition];apply b0b;intro K hK;simp only [go_sem,s0];apply hK;refine b0v ?_;apply b0b;intro K hK;simp only [go_sem,s1];apply hK;refine b0i fun K1 hK1=>?_;simp only [go_sem];refine b0k (fun hc2=>?_) (fun hc2=>?_)
 ·rw [b0r hc2] at hm0;apply b0b;intro K hK;simp only [go_sem];apply hK;simp only [b0x,b1p,b2e,b0y];obtain rfl:=sI9 hm0;exact b04 vb9 (b0e _)
 ·rw [b0q hc2] at hm0;simp only [b0s,b02,b0f];refine hK1 _ _ ?_;refine b0v ?_;apply b0b;intro K hK;simp only [go_sem];apply hK;refine b0i fun K3 hK3=>?_
  have J4:∀ (t:Slots) (h:Heap),d4s=some r->K3 t h:=by
   intro t h hm0;refine hK3 _ _ ?_;unfold d4s at hm0;apply b0b;intro K hK;simp only [go_sem];apply hK;simp only [b0x,b1p,b2e,b0y];obtain rfl:=sI9 hm0;exact b04 vb9 (b0e _)
  simp only [b0u];obtain ⟨b5,hl5,hm0⟩:=b0g hm0;refine b1j hl5 (fun|i_7,t,h=>t 1 = .fs 1 (List.map b0t c)/\t 2=B inside/\t 3 = .fp (vM m) 0/\t 7=I i_7) ?_ ?_
  ·exact ⟨s1,s2,va9,va9⟩
  ·rintro i_7 o t h ⟨s1,s2,s3,s7⟩ hm1 hb5;simp only [c05] at hm1;rw [g4z];refine b0v ?_;apply b0b;intro K hK;simp only [go_sem,s1,s7];apply hK;refine b0i fun K6 hK6=>?_;simp only [go_sem];refine b0k (fun hc7=>?_) (fun hc7=>?_)
   ·rw [b0r hc7] at hm1;simp only [b0s,b02,b0f];refine hK6 _ _ ?_;refine b0i fun K8 hK8=>?_
    have J9:∀ (t:Slots) (h:Heap),t 1 = .fs 1 (List.map b0t c)->t 2=B inside->t 3 = .fp (vM m) 0->t 7=I i_7->c8p i_7=some o->K8 t h:=by
     intro t h s1 s2 s3 s7 hm1;refine hK8 _ _ ?_;unfold c8p at hm1;apply b03;intro K hK;simp only [go_sem,s7];apply hK;simp only [b02,b0f];obtain rfl:=sI9 hm1;refine ⟨_,rfl,?_⟩;exact ⟨s1,s2,s3,(by first|(simp only [go_sem,s7,lA9,mA9]; done)|rfl)⟩
    simp only [b0u];refine b0v ?_;obtain ⟨x11,h_x11,hm1⟩:=b0g hm1;have h_x110:=b05 h_x11;have h_x111:=b06 h_x11;apply b0b;intro K hK;simp only [go_sem,s1,s7,b08 h_x11,b3n h_x11,h_x110,h_x111];apply hK;refine b0i fun K12 hK12=>?_;simp only [go_sem];refine b0k (fun hc13=>?_) (fun hc13=>?_)
    ·rw [b0r hc13] at hm1;apply b0b;intro K hK;simp only [go_sem];apply hK;simp only [b0x,b1p,b2e,b0y];obtain rfl:=sI9 hm1;obtain rfl:=hb5 _ rfl
     try dsimp only at hm0
     obtain rfl:=sI9 hm0;exact b04 vb9 (b0e _)
    ·rw [b0q hc13] at hm1;simp only [b0s,b02,b0f];refine hK12 _ _ ?_;apply b0b;intro K hK;simp only [go_sem];apply hK;simp only [b0u];obtain ⟨b14,hl14,hm1⟩:=b0g hm1;refine b1j hl14 (fun|k_8,t,h=>t 1 = .fs 1 (List.map b0t c)/\t 2=B inside/\t 3 = .fp (vM m) 0/\t 7=I i_7/\t 8=I k_8) ?_ ?_
     ·exact ⟨s1,s2,s3,s7,va9⟩
     ·rintro k_8 o t h ⟨s1,s2,s3,s7,s8⟩ hm2 hb14;simp only [b8y] at hm2;rw [g4y];refine b0v ?_;obtain ⟨x16,h_x16,hm2⟩:=b0g hm2;have h_x160:=b05 h_x16;have h_x161:=b06 h_x16;apply b0b;intro K hK;simp only [go_sem,s1,s7,s8,b08 h_x16,b3n h_x16,h_x160,h_x161];apply hK;refine b0i fun K17 hK17=>?_;simp only [go_sem];refine b0k (fun hc18=>?_) (fun hc18=>?_)
      ·rw [b0r hc18] at hm2;simp only [b0s,b02,b0f];refine hK17 _ _ ?_;refine b0i fun K19 hK19=>?_;simp only [b0u];obtain ⟨x21,h_x21,hm2⟩:=b0g hm2;have h_x210:=b05 h_x21;have h_x211:=b06 h_x21;apply b0b;intro K hK;simp only [go_sem,s1,s7,s8,b08 h_x21,b3n h_x21,h_x210,h_x211,b08 h_x16,b3n h_x16,h_x160,h_x161];apply hK;apply b0b;intro K hK;simp only [go_sem];apply hK;refine b0v ?_;apply b0b;intro K hK;simp only [go_sem];apply hK;refine b0i fun K22 hK22=>?_
       have J23:∀ (is_10:Bool) (t:Slots) (h:Heap),t 1 = .fs 1 (List.map b0t c)->t 2=B inside->t 3 = .fp (vM m) 0->t 7=I i_7->t 8=I k_8->t 10=B is_10->b7p k_8 is_10=some o->K22 t h:=by
        intro is_10 t h s1 s2 s3 s7 s8 s10 hm2;refine hK22 _ _ ?_;unfold b7p at hm2;apply b0b;intro K hK;simp only [go_sem,s10];apply hK;simp only [go_sem];refine b0k (fun hc24=>?_) (fun hc24=>?_)
        ·rw [b0r hc24] at hm2;apply b0b;intro K hK;simp only [go_sem];apply hK;simp only [b0x,b1p,b2e,b0y];obtain rfl:=sI9 hm2;obtain rfl:=hb14 _ rfl
         try dsimp only at hm1
         obtain rfl:=sI9 hm1;obtain rfl:=hb5 _ rfl
         try dsimp only at hm0
         obtain rfl:=sI9 hm0;exact b04 vb9 (b0e _)
        ·rw [b0q hc24] at hm2;simp only [b0s,b02,b0f];refine hK19 _ _ ?_;apply b03;intro K hK;simp only [go_sem,s8];apply hK;simp only [b02,b0f];obtain rfl:=sI9 hm2;refine ⟨_,rfl,?_⟩;exact ⟨s1,s2,s3,s7,(by first|(simp only [go_sem,s8,lA9,mA9]; done)|rfl)⟩
       simp only [b0u];apply b0b;intro K hK;simp only [go_sem];apply hK;simp only [go_sem];refine b0k (fun hc25=>?_) (fun hc25=>?_)
       ·rw [b0r hc25] at hm2;refine b9y (fun t h=>t 1 = .fs 1 (List.map b0t c)/\t 2=B inside/\t 3 = .fp (vM m) 0/\t 7=I i_7/\t 8=I k_8/\t 10=B ((b2b x21.Number 0 (wr ((List.length m.Inputs:Int) - 1))) && (decide (x21.Value=0)))) (fun K hK=>?_) ?_
        ·simp only [go_sem,s3];refine b01 (b4p x21.Number 0 (wr ((List.length m.Inputs:Int) - 1))) ?_;simp only [go_sem,s3];refine b0k (fun hg26=>?_) (fun hg26=>?_)
         ·simp only [go_sem,s3,hg26];exact hK _ _ ⟨s1,s2,s3,s7,s8,(by first|(simp only [go_sem,hg26,lA9,mA9]; done)|rfl)⟩
         ·simp only [go_sem,s3,hg26];exact hK _ _ ⟨s1,s2,s3,s7,s8,(by first|(simp only [go_sem,hg26,lA9,mA9]; done)|rfl)⟩
        ·rintro t h ⟨s1,s2,s3,s7,s8,s10⟩;simp only [b02,b0f];exact J23 ((b2b x21.Number 0 (wr ((List.length m.Inputs:Int) - 1))) && (decide (x21.Value=0))) _ _ s1 s2 s3 s7 s8 s10 hm2
       ·rw [b0q hc25] at hm2;apply b0b;intro K hK;simp only [go_sem];apply hK;simp only [go_sem];refine b0k (fun hc27=>?_) (fun hc27=>?_)
        ·rw [b0r hc27] at hm2;obtain ⟨c31,h_c31,hm2⟩:=b0g hm2;refine b9y (fun t h=>t 1 = .fs 1 (List.map b0t c)/\t 2=B inside/\t 3 = .fp (vM m) 0/\t 7=I i_7/\t 8=I k_8/\t 10=B c31) (fun K hK=>?_) ?_
         ·simp only [go_sem,s3];refine b01 (b4p x21.Number 0 (wr ((List.length m.Counters:Int) - 1))) ?_;simp only [go_sem,s3];refine b0k (fun hg32=>?_) (fun hg32=>?_)
          ·simp only [hg32,Bool.not_true,Bool.not_false,eq_self,if_true,if_false,Bool.true_or,Bool.or_true,Bool.false_or,Bool.or_false,Bool.true_and,Bool.and_true,Bool.false_and,Bool.and_false,fT9] at h_c31;obtain ⟨x30,h_x30,h_c31⟩:=b0g h_c31;have h_x300:=b05 h_x30;have h_x301:=b06 h_x30;obtain rfl:=sI9 h_c31;simp only [go_sem,s3,b08 h_x30,b3n h_x30,h_x300,h_x301,hg32];refine b01 (b4p x21.Value 0 x30.Max) ?_;simp only [go_sem,s3,b08 h_x30,b3n h_x30,h_x300,h_x301,hg32];exact hK _ _ ⟨s1,s2,s3,s7,s8,(by first|(simp only [go_sem,hg32,lA9,mA9]; done)|rfl)⟩
          ·simp only [hg32,Bool.not_true,Bool.not_false,eq_self,if_true,if_false,Bool.true_or,Bool.or_true,Bool.false_or,Bool.or_false,Bool.true_and,Bool.and_true,Bool.false_and,Bool.and_false,fT9] at h_c31;obtain rfl:=sI9 h_c31;simp only [go_sem,s3,hg32];exact hK _ _ ⟨s1,s2,s3,s7,s8,(by first|(simp only [go_sem,hg32,lA9,mA9]; done)|rfl)⟩
         ·rintro t h ⟨s1,s2,s3,s7,s8,s10⟩;simp only [b02,b0f];exact J23 c31 _ _ s1 s2 s3 s7 s8 s10 hm2
        ·rw [b0q hc27] at hm2;apply b0b;intro K hK;simp only [go_sem];apply hK;simp only [go_sem];refine b0k (fun hc33=>?_) (fun hc33=>?_)
         ·rw [b0r hc33] at hm2;refine b9y (fun t h=>t 1 = .fs 1 (List.map b0t c)/\t 2=B inside/\t 3 = .fp (vM m) 0/\t 7=I i_7/\t 8=I k_8/\t 10=B ((inside && (b2b x21.Number 0 (wr ((List.length m.States:Int) - 1)))) && (decide (x21.Value=0)))) (fun K hK=>?_) ?_
          ·simp only [go_sem,s2,s3];refine b0k (fun hg34=>?_) (fun hg34=>?_)
           ·simp only [go_sem,s2,s3,hg34];refine b01 (b4p x21.Number 0 (wr ((List.length m.States:Int) - 1))) ?_;simp only [go_sem,s2,s3,hg34];refine b0k (fun hg35=>?_) (fun hg35=>?_)
            ·simp only [go_sem,s2,s3,hg34,hg35];exact hK _ _ ⟨s1,s2,s3,s7,s8,(by first|(simp only [go_sem,hg34,hg35,lA9,mA9]; done)|rfl)⟩
            ·simp only [go_sem,s2,s3,hg34,hg35];exact hK _ _ ⟨s1,s2,s3,s7,s8,(by first|(simp only [go_sem,hg34,hg35,lA9,mA9]; done)|rfl)⟩
           ·simp only [go_sem,s2,s3,hg34];exact hK _ _ ⟨s1,s2,s3,s7,s8,(by first|(simp only [go_sem,hg34,lA9,mA9]; done)|rfl)⟩
          ·rintro t h ⟨s1,s2,s3,s7,s8,s10⟩;simp only [b02,b0f];exact J23 ((inside && (b2b x21.Number 0 (wr ((List.length m.States:Int) - 1)))) && (decide (x21.Value=0))) _ _ s1 s2 s3 s7 s8 s10 hm2
         ·rw [b0q hc33] at hm2;apply b0b;intro K hK;simp only [go_sem];apply hK;simp only [go_sem];refine b0k (fun hc36=>?_) (fun hc36=>?_)
          ·rw [b0r hc36] at hm2;refine b9y (fun t h=>t 1 = .fs 1 (List.map b0t c)/\t 2=B inside/\t 3 = .fp (vM m) 0/\t 7=I i_7/\t 8=I k_8/\t 10=B ((b2b x21.Number 0 (wr ((List.length m.Outputs:Int) - 1))) && (decide (x21.Value=0)))) (fun K hK=>?_) ?_
           ·simp only [go_sem,s3];refine b01 (b4p x21.Number 0 (wr ((List.length m.Outputs:Int) - 1))) ?_;simp only [go_sem,s3];refine b0k (fun hg37=>?_) (fun hg37=>?_)
            ·simp only [go_sem,s3,hg37];exact hK _ _ ⟨s1,s2,s3,s7,s8,(by first|(simp only [go_sem,hg37,lA9,mA9]; done)|rfl)⟩
            ·simp only [go_sem,s3,hg37];exact hK _ _ ⟨s1,s2,s3,s7,s8,(by first|(simp only [go_sem,hg37,lA9,mA9]; done)|rfl)⟩
           ·rintro t h ⟨s1,s2,s3,s7,s8,s10⟩;simp only [b02,b0f];exact J23 ((b2b x21.Number 0 (wr ((List.length m.Outputs:Int) - 1))) && (decide (x21.Value=0))) _ _ s1 s2 s3 s7 s8 s10 hm2
          ·rw [b0q hc36] at hm2;simp only [b0s,b02,b0f];exact J23 false _ _ s1 s2 s3 s7 s8 va9 hm2
      ·rw [b0q hc18] at hm2;simp only [b09,b1b,b1a,c0s,b02,b0f,Nat.reduceEqDiff,nF9];obtain rfl:=sI9 hm2;obtain rfl:=hb14 _ rfl
       try dsimp only at hm1
       exact J9  _ _ s1 s2 s3 s7 hm1
   ·rw [b0q hc7] at hm1;simp only [b09,b1b,b1a,c0s,b02,b0f,Nat.reduceEqDiff,nF9];obtain rfl:=sI9 hm1;obtain rfl:=hb5 _ rfl
    try dsimp only at hm0
    exact J4  _ _  hm0
theorem d3e (hf:Has O "newel/newelref04.literal" x_r04_literal):d0h O:=by
 intro m p input l r hm0;unfold c1a at hm0;refine b1i hf rfl (b0a (fM _) (b0a (.agg _ (b0a (b0e _) (b0a (b0e _) (b0a (b0e _) b0j)))) (b0a (b0e _) (b0a (.agg _ (b0a (b0e _) (b0a (b0e _) (b0a (b0e _) (b0a (b0e _) b0j))))) b0j)))) (b0e _) ?_;refine b1c (fun t h=>t 0 = .agg (vM m)/\t 1 = .agg [I p.State,I p.Values.1,I p.Values.2]/\t 2=I input/\t 3 = .agg [I l.Kind,I l.Number,I l.Value,B l.Not]) ⟨rfl,rfl,rfl,rfl⟩ fun t h ⟨s0,s1,s2,s3⟩=>?_;simp only [x_r04_literal];apply b0b;intro K hK;simp only [go_sem,s0,s1,s3];apply hK;apply b0b;intro K hK;simp only [go_sem];apply hK;refine b0v ?_;apply b0b;intro K hK;simp only [go_sem];apply hK;refine b0i fun K1 hK1=>?_
 have J2:∀ (is_9:Bool) (t:Slots) (h:Heap),t 7 = .fp [I l.Kind,I l.Number,I l.Value,B l.Not] 0->t 9=B is_9->b7q l is_9=some r->K1 t h:=by
  intro is_9 t h s7 s9 hm0;refine hK1 _ _ ?_;unfold b7q at hm0;apply b0b;intro K hK;simp only [go_sem,s7,s9];apply hK;simp only [b0x,b1p,b2e,b0y];obtain rfl:=sI9 hm0;exact b04 vb9 (b0e _)
 simp only [b0u];apply b0b;intro K hK;simp only [go_sem];apply hK;simp only [go_sem];refine b0k (fun hc3=>?_) (fun hc3=>?_)
 ·rw [b0r hc3] at hm0;obtain ⟨q5,h_q5,hm0⟩:=b0g hm0;apply b03;intro K hK;simp only [go_sem,s2,c7d h_q5];apply hK;simp only [b02,b0f];exact J2 (decide ((b6y q5 1)=1)) _ _ va9 va9 hm0
 ·rw [b0q hc3] at hm0;apply b0b;intro K hK;simp only [go_sem];apply hK;simp only [go_sem];refine b0k (fun hc6=>?_) (fun hc6=>?_)
  ·rw [b0r hc6] at hm0;obtain ⟨x8,h_x8,hm0⟩:=b0g hm0;have ha_x8:∀ v:Int,List.take (1+Int.toNat (l.Number)) [I p.State,I p.Values.1,I p.Values.2]++[I v]++List.drop (1+Int.toNat (l.Number)) [I p.Values.1,I p.Values.2]=[I p.State,I (b1n (l.Number) 0 v p.Values.1),I (b1n (l.Number) 1 v p.Values.2)]:=fun v=>(c1e (cs:=[I p.State,I p.Values.1,I p.Values.2]) (off:=1) (v:=v) h_x8 rfl).trans (by rw [c1d h_x8]; rfl);have hb_x8:1+Int.toNat (l.Number)+1<=3:=Nat.le_trans (Nat.add_le_add_left (c0a h_x8) 1) (by simp);apply b03;intro K hK;simp only [go_sem,d94 (n:=2) (l:=[p.Values.1,p.Values.2]) h_x8 rfl,c7f (n:=2) (l:=[p.Values.1,p.Values.2]) h_x8 rfl,c0c (cs:=[I p.State,I p.Values.1,I p.Values.2]) (off:=1) h_x8 rfl,ha_x8,hb_x8];apply hK;simp only [b02,b0f];exact J2 (decide (l.Value<=x8)) _ _ va9 va9 hm0
  ·rw [b0q hc6] at hm0;apply b0b;intro K hK;simp only [go_sem];apply hK;simp only [go_sem];refine b0k (fun hc9=>?_) (fun hc9=>?_)
   ·rw [b0r hc9] at hm0;apply b03;intro K hK;simp only [go_sem];apply hK;simp only [b02,b0f];exact J2 (decide (p.State=l.Number)) _ _ va9 va9 hm0
   ·rw [b0q hc9] at hm0;apply b0b;intro K hK;simp only [go_sem];apply hK;simp only [go_sem];refine b0k (fun hc10=>?_) (fun hc10=>?_)
    ·rw [b0r hc10] at hm0;obtain ⟨x13,h_x13,hm0⟩:=b0g hm0;have h_x130:=b05 h_x13;have h_x131:=b06 h_x13;obtain ⟨q14,h_q14,hm0⟩:=b0g hm0;apply b03;intro K hK;simp only [go_sem,b08 h_x13,b3n h_x13,h_x130,h_x131,c7d h_q14];apply hK;simp only [b02,b0f];exact J2 (decide ((b6y q14 1)=1)) _ _ va9 va9 hm0
    ·rw [b0q hc10] at hm0;simp only [b0s,b02,b0f];exact J2 false _ _ va9 va9 hm0
theorem d3f (hf:Has O "newel/newelref04.names" x_r04_names):d0i O:=by
 intro m r hm0;unfold c4l at hm0;refine b1i hf rfl (b0a (fM _) b0j) (b0c fun a _=>b0z a) ?_;refine b1c (fun t h=>t 0 = .agg (vM m)) rfl fun t h s0=>?_;simp only [x_r04_names];apply b0b;intro K hK;simp only [go_sem,s0];apply hK;obtain ⟨l3,h_l3,hm0⟩:=b0g hm0;obtain ⟨l4,h_l4,hm0⟩:=b0g hm0;apply b0b;intro K hK;simp only [go_sem];refine b3a (f:=eS) (l:=([])) (m:=m.Inputs) ?_ ?_ ?_ ?_ h_l3 ?_
 ·exact (b2v vb9 vb9 ve9)
 ·exact b7j
 ·exact b7i
 ·exact (fun e=>by cases e)
 simp only [go_sem];refine b3a (f:=eS) (l:=l3) (m:=m.Outputs) ?_ ?_ ?_ ?_ h_l4 ?_
 ·exact (b2v vb9 vb9 ve9)
 ·exact b7j
 ·exact b7i
 ·exact (fun e=>by cases e)
 simp only [go_sem];apply hK;refine b0v ?_;apply b0b;intro K hK;simp only [go_sem];apply hK;refine b0i fun K5 hK5=>?_
 have J6:∀ (l_3:List ByteArray) (i3:Nat) (t:Slots) (h:Heap),t 1 = .fp (vM m) 0->t 3 = .rs i3 0 (List.length l_3)->h.ob i3=some (1,List.map eS l_3)->i3<h.nx->c8u m l_3=some r->K5 t h:=by
  intro l_3 i3 t h s1 s3 Q1 Q0 hm0;refine hK5 _ _ ?_;unfold c8u at hm0;refine b0v ?_;apply b0b;intro K hK;simp only [go_sem,Q0];apply hK;refine b0i fun K7 hK7=>?_
  have J8:∀ (l_3_1:List ByteArray) (i3_1:Nat) (t:Slots) (h:Heap),t 3 = .rs i3_1 0 (List.length l_3_1)->h.ob i3_1=some (1,List.map eS l_3_1)->i3_1<h.nx->c8v l_3_1=some r->K7 t h:=by
   intro l_3_1 i3_1 t h s3 Q1 Q0 hm0;refine hK7 _ _ ?_;unfold c8v at hm0;apply b0b;intro K hK;simp only [go_sem,s3,Q1,Q0];apply hK;simp only [b0x,b1p,b2e,b0y];obtain rfl:=sI9 hm0;exact b8e (v:=.rs i3_1 0 (List.length l_3_1)) (by simp only [go_sem,Q1,Q0,lA9,mA9]) (b29 (f:=eS) (l:=l_3_1) (id:=i3_1) (by simp only [go_sem,Q1,Q0,lA9,mA9]) vf9 b0z c3u)
  simp only [b0u];obtain ⟨b9,hl9,hm0⟩:=b0g hm0;refine b1j hl9 (fun|(l_3_1,i_5),t,h=>∃ i3_1:Nat,t 1 = .fp (vM m) 0/\t 3 = .rs i3_1 0 (List.length l_3_1)/\t 5=I i_5/\h.ob i3_1=some (1,List.map eS l_3_1)/\i3_1<h.nx) ?_ ?_
  ·exact ⟨i3,s1,(by first|exact s3|simp only [go_sem,s3,lA9,mA9]),va9,Q1,Q0⟩
  ·rintro ⟨l_3_1,i_5⟩ o t h ⟨i3_1,s1,s3,s5,Q1,Q0⟩ hm1 hb9;simp only [c8s] at hm1;rw [g43];refine b0v ?_;apply b0b;intro K hK;simp only [go_sem,s1,s5,Q0];apply hK;refine b0i fun K10 hK10=>?_;simp only [go_sem];refine b0k (fun hc11=>?_) (fun hc11=>?_)
   ·rw [b0r hc11] at hm1;simp only [b0s,b02,b0f];refine hK10 _ _ ?_;refine b0i fun K12 hK12=>?_;simp only [b0u];obtain ⟨x15,h_x15,hm1⟩:=b0g hm1;have h_x150:=b05 h_x15;have h_x151:=b06 h_x15;obtain ⟨l16,h_l16,hm1⟩:=b0g hm1;apply b03;intro K hK;simp only [go_sem,s1,s3,s5,Q1,Q0,b08 h_x15,b3n h_x15,h_x150,h_x151];refine b3a (f:=eS) (l:=l_3_1) (m:=([x15.Name])) ?_ ?_ ?_ ?_ h_l16 ?_
    ·exact (b2v (by simp only [go_sem,Q1,Q0,lA9,mA9]) (by simp only [go_sem,Q1,Q0,lA9,mA9]) (by simp only [go_sem,Q0]))
    ·exact (b4t (by simp only [go_sem,Q1,Q0,lA9,mA9]) (by simp only [go_sem,Q1,Q0,lA9,mA9]))
    ·exact (b4r vc9)
    ·exact (fun _=>by simp)
    simp only [go_sem,s1,s3,s5,Q1,Q0,b08 h_x15,b3n h_x15,h_x150,h_x151];apply hK;simp only [b02,b0f];refine hK12 _ _ ?_;apply b03;intro K hK;simp only [go_sem,s5,Q0];apply hK;simp only [b02,b0f];obtain rfl:=sI9 hm1;refine ⟨_,rfl,?_⟩;exact ⟨(nxs h.nx),s1,(by first|(simp only [go_sem,s3,lA9,mA9]; done)|rfl),(by first|(simp only [go_sem,s5,lA9,mA9]; done)|rfl),(by simp only [go_sem,Q0,lA9,mA9]),ve9⟩
   ·rw [b0q hc11] at hm1;simp only [b09,b1b,b1a,c0s,b02,b0f,Nat.reduceEqDiff,nF9];obtain rfl:=sI9 hm1;obtain rfl:=hb9 _ rfl
    try dsimp only at hm0
    exact J8 l_3_1 i3_1 _ _ (by first|exact s3|simp only [go_sem,s3,lA9,mA9]) Q1 Q0 hm0
 simp only [b0u];obtain ⟨b18,hl18,hm0⟩:=b0g hm0;refine b1j hl18 (fun|(l_3,i_4),t,h=>∃ i3:Nat,t 1 = .fp (vM m) 0/\t 3 = .rs i3 0 (List.length l_3)/\t 4=I i_4/\h.ob i3=some (1,List.map eS l_3)/\i3<h.nx) ?_ ?_
 ·exact ⟨(nxs (nxs h.nx)),va9,va9,va9,vb9,ve9⟩
 ·rintro ⟨l_3,i_4⟩ o t h ⟨i3,s1,s3,s4,Q1,Q0⟩ hm1 hb18;simp only [c8t] at hm1;rw [g44];refine b0v ?_;apply b0b;intro K hK;simp only [go_sem,s1,s4,Q0];apply hK;refine b0i fun K19 hK19=>?_;simp only [go_sem];refine b0k (fun hc20=>?_) (fun hc20=>?_)
  ·rw [b0r hc20] at hm1;simp only [b0s,b02,b0f];refine hK19 _ _ ?_;refine b0i fun K21 hK21=>?_;simp only [b0u];obtain ⟨x24,h_x24,hm1⟩:=b0g hm1;have h_x240:=b05 h_x24;have h_x241:=b06 h_x24;obtain ⟨l25,h_l25,hm1⟩:=b0g hm1;apply b03;intro K hK;simp only [go_sem,s1,s3,s4,Q1,Q0,b08 h_x24,b3n h_x24,h_x240,h_x241];refine b3a (f:=eS) (l:=l_3) (m:=([x24.Name])) ?_ ?_ ?_ ?_ h_l25 ?_
   ·exact (b2v (by simp only [go_sem,Q1,Q0,lA9,mA9]) (by simp only [go_sem,Q1,Q0,lA9,mA9]) (by simp only [go_sem,Q0]))
   ·exact (b4t (by simp only [go_sem,Q1,Q0,lA9,mA9]) (by simp only [go_sem,Q1,Q0,lA9,mA9]))
   ·exact (b4r vc9)
   ·exact (fun _=>by simp)
   simp only [go_sem,s1,s3,s4,Q1,Q0,b08 h_x24,b3n h_x24,h_x240,h_x241];apply hK;simp only [b02,b0f];refine hK21 _ _ ?_;apply b03;intro K hK;simp only [go_sem,s4,Q0];apply hK;simp only [b02,b0f];obtain rfl:=sI9 hm1;refine ⟨_,rfl,?_⟩;exact ⟨(nxs h.nx),s1,(by first|(simp only [go_sem,s3,lA9,mA9]; done)|rfl),(by first|(simp only [go_sem,s4,lA9,mA9]; done)|rfl),(by simp only [go_sem,Q0,lA9,mA9]),ve9⟩
  ·rw [b0q hc20] at hm1;simp only [b09,b1b,b1a,c0s,b02,b0f,Nat.reduceEqDiff,nF9];obtain rfl:=sI9 hm1;obtain rfl:=hb18 _ rfl
   try dsimp only at hm0
   exact J6 l_3 i3 _ _ s1 (by first|exact s3|simp only [go_sem,s3,lA9,mA9]) Q1 Q0 hm0
theorem u0s (hf:Has O "newel/newelref10.CheckAccident" x_r10_CheckAccident) (c3j:c5l O) (s8v:u1m O):u1k O:=by
 intro a r hm0;unfold s9r at hm0;refine b1i hf rfl (b0a (fA _) b0j) (b0e _) ?_;refine b1c (fun t h=>t 0 = .agg (vA a)) rfl fun t h s0=>?_;simp only [x_r10_CheckAccident];apply b0b;intro K hK;simp only [go_sem,s0];apply hK;apply b0b;intro K hK;simp only [go_sem];apply hK;refine b0v ?_;apply b0b;intro K hK;simp only [go_sem];apply hK;refine b0i fun K1 hK1=>?_
 have J2:∀ (l_3:List (List (List Literal))) (i3:Nat) (t:Slots) (h:Heap),t 1 = .fp (vA a) 0->t 3 = .rs i3 0 (List.length l_3)->h.ob i3=some (1,List.map b4v l_3)->i3<h.nx->u11 a l_3=some r->K1 t h:=by
  intro l_3 i3 t h s1 s3 Q1 Q0 hm0;refine hK1 _ _ ?_;unfold u11 at hm0;obtain ⟨y4,h_y4,hm0⟩:=b0g hm0;apply b0b;intro K hK;simp only [go_sem,s1,s3,Q1,Q0];refine b8l ?_ (c3j a.Machine l_3 _ h_y4) (.v _) ?_
  ·exact .cons (.refl _ (fM _)) (.cons (b29 (f:=b4v) (l:=l_3) (id:=i3) (by simp only [go_sem,Q1,Q0,lA9,mA9]) vf9 b97 c7o) (.nil))
  simp only [go_sem,s1,s3,Q1,Q0];apply hK;refine b0v ?_;apply b0b;intro K hK;simp only [go_sem,Q0];apply hK;refine b0i fun K5 hK5=>?_;simp only [go_sem];refine b0k (fun hc6=>?_) (fun hc6=>?_)
  ·rw [b0r hc6] at hm0;apply b0b;intro K hK;simp only [go_sem,Q0];apply hK;simp only [b0x,b1p,b2e,b0y];obtain rfl:=sI9 hm0;exact b04 (by simp only [go_sem,Q1,Q0,lA9,mA9]) (b0e _)
  ·rw [b0q hc6] at hm0;simp only [b0s,b02,b0f];refine hK5 _ _ ?_;refine b0v ?_;apply b0b;intro K hK;simp only [go_sem,s1,Q0];refine b01 (s8v a.Ticks 0 40) ?_;simp only [go_sem,s1,Q0];apply hK;refine b0i fun K7 hK7=>?_;simp only [go_sem];refine b0k (fun hc8=>?_) (fun hc8=>?_)
   ·rw [b0r hc8] at hm0;apply b0b;intro K hK;simp only [go_sem,Q0];apply hK;simp only [b0x,b1p,b2e,b0y];obtain rfl:=sI9 hm0;exact b04 (by simp only [go_sem,Q1,Q0,lA9,mA9]) (b0e _)
   ·rw [b0q hc8] at hm0;simp only [b0s,b02,b0f];refine hK7 _ _ ?_;refine b0v ?_;apply b0b;intro K hK;simp only [go_sem,s1,Q0];apply hK;refine b0i fun K9 hK9=>?_;simp only [go_sem];refine b0k (fun hc10=>?_) (fun hc10=>?_)
    ·rw [b0r hc10] at hm0;apply b0b;intro K hK;simp only [go_sem,Q0];apply hK;simp only [b0x,b1p,b2e,b0y];obtain rfl:=sI9 hm0;exact b04 (by simp only [go_sem,Q1,Q0,lA9,mA9]) (b0e _)
    ·rw [b0q hc10] at hm0;simp only [b0s,b02,b0f];refine hK9 _ _ ?_;refine b0v ?_;apply b0b;intro K hK;simp only [go_sem,Q0];apply hK;refine b0i fun K11 hK11=>?_
     have J12:∀ (t:Slots) (h:Heap),u30=some r->K11 t h:=by
      intro t h hm0;refine hK11 _ _ ?_;unfold u30 at hm0;apply b0b;intro K hK;simp only [go_sem];apply hK;simp only [b0x,b1p,b2e,b0y];obtain rfl:=sI9 hm0;exact b04 vb9 (b0e _)
     simp only [b0u];obtain ⟨b13,hl13,hm0⟩:=b0g hm0;refine b1j hl13 (fun|i_6,t,h=>t 1 = .fp (vA a) 0/\t 6=I i_6) ?_ ?_
     ·exact ⟨s1,va9⟩
     ·rintro i_6 o t h ⟨s1,s6⟩ hm1 hb13;simp only [u01] at hm1;rw [u5y];refine b0v ?_;apply b0b;intro K hK;simp only [go_sem,s1,s6];apply hK;refine b0i fun K14 hK14=>?_;simp only [go_sem];refine b0k (fun hc15=>?_) (fun hc15=>?_)
      ·rw [b0r hc15] at hm1;simp only [b0s,b02,b0f];refine hK14 _ _ ?_;refine b0i fun K16 hK16=>?_;simp only [b0u];obtain ⟨x18,h_x18,hm1⟩:=b0g hm1;have h_x180:=b05 h_x18;have h_x181:=b06 h_x18;apply b0b;intro K hK;simp only [go_sem,s1,s6,b08 h_x18,b3n h_x18,h_x180,h_x181];apply hK;refine b2p (fun t h=>t 1 = .fp (vA a) 0/\t 6=I i_6/\t 66=B ((!(b98 x18.From 0 x18.To)) || (decide (a.Ticks<=x18.To)))) (fun K hK=>?_) ?_
       ·simp only [go_sem,s1];refine b01 (s8v x18.From 0 x18.To) ?_;simp only [go_sem,s1];refine b0k (fun hg19=>?_) (fun hg19=>?_)
        ·simp only [go_sem,s1,hg19];exact hK _ _ ⟨s1,s6,(by first|(simp only [go_sem,hg19,lA9,mA9]; done)|rfl)⟩
        ·simp only [go_sem,s1,hg19];exact hK _ _ ⟨s1,s6,(by first|(simp only [go_sem,hg19,lA9,mA9]; done)|rfl)⟩
       ·rintro t h ⟨s1,s6,s66⟩;simp only [go_sem,s66];refine b0k (fun hc20=>?_) (fun hc20=>?_)
        ·rw [b0r hc20] at hm1;apply b0b;intro K hK;simp only [go_sem];apply hK;simp only [b0x,b1p,b2e,b0y];obtain rfl:=sI9 hm1;obtain rfl:=hb13 _ rfl
         try dsimp only at hm0
         obtain rfl:=sI9 hm0;exact b04 vb9 (b0e _)
        ·rw [b0q hc20] at hm1;simp only [b0s,b02,b0f];refine hK16 _ _ ?_;apply b03;intro K hK;simp only [go_sem,s6];apply hK;simp only [b02,b0f];obtain rfl:=sI9 hm1;refine ⟨_,rfl,?_⟩;exact ⟨s1,(by first|(simp only [go_sem,s6,lA9,mA9]; done)|rfl)⟩
      ·rw [b0q hc15] at hm1;simp only [b09,b1b,b1a,c0s,b02,b0f,Nat.reduceEqDiff,nF9];obtain rfl:=sI9 hm1;obtain rfl:=hb13 _ rfl
       try dsimp only at hm0
       exact J12  _ _  hm0
 simp only [b0u];obtain ⟨b22,hl22,hm0⟩:=b0g hm0;refine b1j hl22 (fun|(l_3,i_4),t,h=>∃ i3:Nat,t 1 = .fp (vA a) 0/\t 3 = .rs i3 0 (List.length l_3)/\t 4=I i_4/\h.ob i3=some (1,List.map b4v l_3)/\i3<h.nx) ?_ ?_
 ·exact ⟨h.nx,va9,va9,va9,vb9,ve9⟩
 ·rintro ⟨l_3,i_4⟩ o t h ⟨i3,s1,s3,s4,Q1,Q0⟩ hm1 hb22;simp only [s9s] at hm1;rw [u5z];refine b0v ?_;apply b0b;intro K hK;simp only [go_sem,s1,s4,Q0];apply hK;refine b0i fun K23 hK23=>?_;simp only [go_sem];refine b0k (fun hc24=>?_) (fun hc24=>?_)
  ·rw [b0r hc24] at hm1;simp only [b0s,b02,b0f];refine hK23 _ _ ?_;refine b0i fun K25 hK25=>?_;simp only [b0u];obtain ⟨x28,h_x28,hm1⟩:=b0g hm1;have h_x280:=b05 h_x28;have h_x281:=b06 h_x28;obtain ⟨l29,h_l29,hm1⟩:=b0g hm1;apply b03;intro K hK;simp only [go_sem,s1,s3,s4,Q1,Q0,b08 h_x28,b3n h_x28,h_x280,h_x281];refine b3a (f:=b4v) (l:=l_3) (m:=([x28.Cond])) ?_ ?_ ?_ ?_ h_l29 ?_
   ·exact (b2v (by simp only [go_sem,Q1,Q0,lA9,mA9]) (by simp only [go_sem,Q1,Q0,lA9,mA9]) (by simp only [go_sem,Q0]))
   ·exact (b4t (by simp only [go_sem,Q1,Q0,lA9,mA9]) (by simp only [go_sem,Q1,Q0,lA9,mA9]))
   ·exact (b4r vc9)
   ·exact (fun _=>by simp)
   simp only [go_sem,s1,s3,s4,Q1,Q0,b08 h_x28,b3n h_x28,h_x280,h_x281];apply hK;simp only [b02,b0f];refine hK25 _ _ ?_;apply b03;intro K hK;simp only [go_sem,s4,Q0];apply hK;simp only [b02,b0f];obtain rfl:=sI9 hm1;refine ⟨_,rfl,?_⟩;exact ⟨(nxs h.nx),s1,(by first|(simp only [go_sem,s3,lA9,mA9]; done)|rfl),(by first|(simp only [go_sem,s4,lA9,mA9]; done)|rfl),(by simp only [go_sem,Q0,lA9,mA9]),ve9⟩
  ·rw [b0q hc24] at hm1;simp only [b09,b1b,b1a,c0s,b02,b0f,Nat.reduceEqDiff,nF9];obtain rfl:=sI9 hm1;obtain rfl:=hb22 _ rfl
   try dsimp only at hm0
   exact J2 l_3 i3 _ _ s1 (by first|exact s3|simp only [go_sem,s3,lA9,mA9]) Q1 Q0 hm0
theorem u3t (hf:Has O "newel/newelref10.IsTheory" x_r10_IsTheory) (s8v:u1m O):u2s O:=by
 intro a t_;generalize hm0:l59 a t_=r;unfold l59 at hm0;refine b1i hf rfl (b0a (fA _) (b0a (.agg _ (b0a (b0e _) (b0a (b0e _) (b0a (b0e _) b0j)))) b0j)) (b0e _) ?_;refine b1c (fun t h=>t 0 = .agg (vA a)/\t 1 = .agg [I t_.Input,I t_.Value,I t_.From]) ⟨rfl,rfl⟩ fun t h ⟨s0,s1⟩=>?_;simp only [x_r10_IsTheory];apply b0b;intro K hK;simp only [go_sem,s0,s1];apply hK;refine b0v ?_;apply b0b;intro K hK;simp only [go_sem];apply hK;refine b0i fun K1 hK1=>?_;simp only [go_sem];refine b0k (fun hc2=>?_) (fun hc2=>?_)
 ·rw [b0r hc2] at hm0;refine b2p (fun t h=>t 4=B ((decide (t_.Value=0)) && (decide (t_.From=0)))) (fun K hK=>?_) ?_
  ·simp only [go_sem];refine b0k (fun hg3=>?_) (fun hg3=>?_)
   ·simp only [go_sem,hg3];exact hK _ _ (by first|(simp only [go_sem,hg3,lA9,mA9]; done)|rfl)
   ·simp only [go_sem,hg3];exact hK _ _ (by first|(simp only [go_sem,hg3,lA9,mA9]; done)|rfl)
  ·rintro t h s4;simp only [b0x,b1p,b2e,b0y];obtain rfl:=hm0;exact b04 (by simp only [go_sem,s4,lA9,mA9]) (b0e _)
 ·rw [b0q hc2] at hm0;simp only [b0s,b02,b0f];refine hK1 _ _ ?_;refine b2p (fun t h=>t 4=B (((b98 t_.Input 0 (wr ((List.length a.Machine.Inputs:Int) - 1))) && (b98 t_.Value 0 1)) && (b98 t_.From 0 (wr (a.Ticks - 1))))) (fun K hK=>?_) ?_
  ·simp only [go_sem];refine b01 (s8v t_.Input 0 (wr ((List.length a.Machine.Inputs:Int) - 1))) ?_;simp only [go_sem];refine b0k (fun hg4=>?_) (fun hg4=>?_)
   ·simp only [go_sem,hg4];refine b01 (s8v t_.Value 0 1) ?_;simp only [go_sem,hg4];refine b0k (fun hg5=>?_) (fun hg5=>?_)
    ·simp only [go_sem,hg4,hg5];refine b01 (s8v t_.From 0 (wr (a.Ticks - 1))) ?_;simp only [go_sem,hg4,hg5];exact hK _ _ (by first|(simp only [go_sem,hg4,hg5,lA9,mA9]; done)|rfl)
    ·simp only [go_sem,hg4,hg5];exact hK _ _ (by first|(simp only [go_sem,hg4,hg5,lA9,mA9]; done)|rfl)
   ·simp only [go_sem,hg4];exact hK _ _ (by first|(simp only [go_sem,hg4,lA9,mA9]; done)|rfl)
  ·rintro t h s4;simp only [b0x,b1p,b2e,b0y];obtain rfl:=hm0;exact b04 (by simp only [go_sem,s4,lA9,mA9]) (b0e _)
theorem x85 (hf:Has O "newel/newelref10.Less" x_r10_Less):x83 O:=by
 intro a b r hm0;unfold x70 at hm0;refine b1i hf rfl (b0a (b0c fun a _=>b1t a) (b0a (b0c fun a _=>b1t a) b0j)) (b0e _) ?_;refine b1c (fun t h=>t 0 = .fs 1 (List.map eI a)/\t 1 = .fs 1 (List.map eI b)) ⟨rfl,rfl⟩ fun t h ⟨s0,s1⟩=>?_;simp only [x_r10_Less];apply b0b;intro K hK;simp only [go_sem];apply hK;refine b0v ?_;apply b0b;intro K hK;simp only [go_sem];apply hK;refine b0i fun K1 hK1=>?_
 have J2:∀ (t:Slots) (h:Heap),t 0 = .fs 1 (List.map eI a)->t 1 = .fs 1 (List.map eI b)->x8z a b=some r->K1 t h:=by
  intro t h s0 s1 hm0;refine hK1 _ _ ?_;unfold x8z at hm0;apply b0b;intro K hK;simp only [go_sem,s0,s1];apply hK;simp only [b0x,b1p,b2e,b0y];obtain rfl:=sI9 hm0;exact b04 vb9 (b0e _)
 simp only [b0u];obtain ⟨b3,hl3,hm0⟩:=b0g hm0;refine b1j hl3 (fun|i_5,t,h=>t 0 = .fs 1 (List.map eI a)/\t 1 = .fs 1 (List.map eI b)/\t 5=I i_5) ?_ ?_
 ·exact ⟨s0,s1,va9⟩
 ·rintro i_5 o t h ⟨s0,s1,s5⟩ hm1 hb3;simp only [C9a] at hm1;rw [x9f];refine b0v ?_;refine b2p (fun t h=>t 0 = .fs 1 (List.map eI a)/\t 1 = .fs 1 (List.map eI b)/\t 5=I i_5/\t 15=B ((decide (i_5<(List.length a:Int))) && (decide (i_5<(List.length b:Int))))) (fun K hK=>?_) ?_
  ·simp only [go_sem,s0,s1,s5];refine b0k (fun hg4=>?_) (fun hg4=>?_)
   ·simp only [go_sem,s0,s1,s5,hg4];exact hK _ _ ⟨s0,s1,s5,(by first|(simp only [go_sem,hg4,lA9,mA9]; done)|rfl)⟩
   ·simp only [go_sem,s0,s1,s5,hg4];exact hK _ _ ⟨s0,s1,s5,(by first|(simp only [go_sem,hg4,lA9,mA9]; done)|rfl)⟩
  ·rintro t h ⟨s0,s1,s5,s15⟩;refine b0i fun K5 hK5=>?_;simp only [go_sem,s15];refine b0k (fun hc6=>?_) (fun hc6=>?_)
   ·rw [b0r hc6] at hm1;simp only [b0s,b02,b0f];refine hK5 _ _ ?_;refine b0i fun K7 hK7=>?_;simp only [b0u];obtain ⟨x10,h_x10,hm1⟩:=b0g hm1;have h_x100:=b05 h_x10;have h_x101:=b06 h_x10;obtain ⟨x11,h_x11,hm1⟩:=b0g hm1;have h_x110:=b05 h_x11;have h_x111:=b06 h_x11;apply b0b;intro K hK;simp only [go_sem,s0,s1,s5,b08 h_x10,b3n h_x10,h_x100,h_x101,b08 h_x11,b3n h_x11,h_x110,h_x111];apply hK;simp only [go_sem];refine b0k (fun hc12=>?_) (fun hc12=>?_)
    ·rw [b0r hc12] at hm1;apply b0b;intro K hK;simp only [go_sem,s0,s1,s5,b08 h_x10,b3n h_x10,h_x100,h_x101,b08 h_x11,b3n h_x11,h_x110,h_x111];apply hK;simp only [b0x,b1p,b2e,b0y];obtain rfl:=sI9 hm1;obtain rfl:=hb3 _ rfl
     try dsimp only at hm0
     obtain rfl:=sI9 hm0;exact b04 vb9 (b0e _)
    ·rw [b0q hc12] at hm1;simp only [b0s,b02,b0f];refine hK7 _ _ ?_;apply b03;intro K hK;simp only [go_sem,s5];apply hK;simp only [b02,b0f];obtain rfl:=sI9 hm1;refine ⟨_,rfl,?_⟩;exact ⟨s0,s1,(by first|(simp only [go_sem,s5,lA9,mA9]; done)|rfl)⟩
   ·rw [b0q hc6] at hm1;simp only [b09,b1b,b1a,c0s,b02,b0f,Nat.reduceEqDiff,nF9];obtain rfl:=sI9 hm1;obtain rfl:=hb3 _ rfl
    try dsimp only at hm0
    exact J2  _ _ s0 s1 hm0
theorem s8v (hf:Has O "newel/newelref10.from" x_r10_from):u1m O:=by
 intro n low high;generalize hm0:b98 n low high=r;unfold b98 at hm0;refine b1i hf rfl (b0a (b0e _) (b0a (b0e _) (b0a (b0e _) b0j))) (b0e _) ?_;refine b1c (fun t h=>t 0=I n/\t 1=I low/\t 2=I high) ⟨rfl,rfl,rfl⟩ fun t h ⟨s0,s1,s2⟩=>?_;simp only [x_r10_from];apply b0b;intro K hK;simp only [go_sem];apply hK;refine b2p (fun t h=>t 6=B ((decide (low<=n)) && (decide (n<=high)))) (fun K hK=>?_) ?_
 ·simp only [go_sem,s0,s1,s2];refine b0k (fun hg1=>?_) (fun hg1=>?_)
  ·simp only [go_sem,s0,s1,s2,hg1];exact hK _ _ (by first|(simp only [go_sem,hg1,lA9,mA9]; done)|rfl)
  ·simp only [go_sem,s0,s1,s2,hg1];exact hK _ _ (by first|(simp only [go_sem,hg1,lA9,mA9]; done)|rfl)
 ·rintro t h s6;simp only [b0x,b1p,b2e,b0y];obtain rfl:=hm0;exact b04 (by simp only [go_sem,s6,lA9,mA9]) (b0e _)
theorem c3p (hf:Has O "newel/situation.Asked" x_situation_Asked) (b8n:c1o O) (d3g:d0j O):c5t O:=by
 intro m c r hm0;unfold c1h at hm0;refine b1i hf rfl (b0a (fM _) (b0a (b0c fun a _=>b2j a) b0j)) (b0e _) ?_;refine b1c (fun t h=>t 0 = .agg (vM m)/\t 1 = .fs 1 (List.map b0t c)) ⟨rfl,rfl⟩ fun t h ⟨s0,s1⟩=>?_;simp only [x_situation_Asked];apply b0b;intro K hK;simp only [go_sem,s0];apply hK;refine b0v ?_;apply b0b;intro K hK;simp only [go_sem,s1];apply hK;refine b0i fun K1 hK1=>?_;simp only [go_sem];refine b0k (fun hc2=>?_) (fun hc2=>?_)
 ·rw [b0r hc2] at hm0;apply b0b;intro K hK;simp only [go_sem];apply hK;simp only [b0x,b1p,b2e,b0y];obtain rfl:=sI9 hm0;exact b04 vb9 (b0e _)
 ·rw [b0q hc2] at hm0;simp only [b0s,b02,b0f];refine hK1 _ _ ?_;refine b0v ?_;apply b0b;intro K hK;simp only [go_sem,s1];apply hK;refine b0i fun K3 hK3=>?_
  have J4:∀ (t:Slots) (h:Heap),d46=some r->K3 t h:=by
   intro t h hm0;refine hK3 _ _ ?_;unfold d46 at hm0;apply b0b;intro K hK;simp only [go_sem];apply hK;simp only [b0x,b1p,b2e,b0y];obtain rfl:=sI9 hm0;exact b04 vb9 (b0e _)
  simp only [b0u];obtain ⟨b5,hl5,hm0⟩:=b0g hm0;refine b1j hl5 (fun|x_12,t,h=>t 2 = .fp (vM m) 0/\t 10 = .fs 1 (List.map b0t c)/\t 11=I (List.length c:Int)/\t 12=I x_12) ?_ ?_
  ·exact ⟨va9,va9,va9,va9⟩
  ·rintro x_12 o t h ⟨s2,s10,s11,s12⟩ hm1 hb5;simp only [c4u] at hm1;rw [g45];apply b0b;intro K hK;simp only [go_sem,s11,s12];apply hK;refine b0i fun K6 hK6=>?_;simp only [go_sem];refine b0k (fun hc7=>?_) (fun hc7=>?_)
   ·rw [b0r hc7] at hm1;simp only [b0s,b02,b0f];refine hK6 _ _ ?_;refine b0i fun K8 hK8=>?_;simp only [b0u];obtain ⟨x10,h_x10,hm1⟩:=b0g hm1;have h_x100:=b05 h_x10;have h_x101:=b06 h_x10;apply b0b;intro K hK;simp only [go_sem,s10,s12,b08 h_x10,b3n h_x10,h_x100,h_x101];apply hK;obtain ⟨c16,h_c16,hm1⟩:=b0g hm1;refine b2p (fun t h=>t 2 = .fp (vM m) 0/\t 10 = .fs 1 (List.map b0t c)/\t 11=I (List.length c:Int)/\t 12=I x_12/\t 23=B c16) (fun K hK=>?_) ?_
    ·simp only [go_sem,s2];refine b0k (fun hg17=>?_) (fun hg17=>?_)
     ·simp only [hg17,Bool.not_true,Bool.not_false,eq_self,if_true,if_false,Bool.true_or,Bool.or_true,Bool.false_or,Bool.or_false,Bool.true_and,Bool.and_true,Bool.false_and,Bool.and_false,fT9] at h_c16;obtain rfl:=sI9 h_c16;simp only [go_sem,s2,hg17];exact hK _ _ ⟨s2,s10,s11,s12,(by first|(simp only [go_sem,hg17,lA9,mA9]; done)|rfl)⟩
     ·simp only [hg17,Bool.not_true,Bool.not_false,eq_self,if_true,if_false,Bool.true_or,Bool.or_true,Bool.false_or,Bool.or_false,Bool.true_and,Bool.and_true,Bool.false_and,Bool.and_false,fT9] at h_c16;obtain ⟨y15,h_y15,h_c16⟩:=b0g h_c16;obtain rfl:=sI9 h_c16;simp only [go_sem,s2,hg17];refine b01 (b8n x10 "newel/situation.Asked$1" [] [.fp (vM m) 0] (fun z14=>b82 z14 m) (.fn _ _ _ b0j (b0a (.fp _ _ (b0a (b0c fun a _=>b0z a) (b0a (b0c fun a _=>b0z a) (b0a (b0c fun a _=>b1q a) (b0a (b0c fun a _=>b1s a) (b0a (b0c fun a _=>b1r a) b0j)))))) b0j)) (fun z0 y hz=>d3g z0 m y hz) _ h_y15) ?_;simp only [go_sem,s2,hg17];exact hK _ _ ⟨s2,s10,s11,s12,(by first|(simp only [go_sem,hg17,lA9,mA9]; done)|rfl)⟩
    ·rintro t h ⟨s2,s10,s11,s12,s23⟩;simp only [go_sem,s23];refine b0k (fun hc18=>?_) (fun hc18=>?_)
     ·rw [b0r hc18] at hm1;apply b0b;intro K hK;simp only [go_sem];apply hK;simp only [b0x,b1p,b2e,b0y];obtain rfl:=sI9 hm1;obtain rfl:=hb5 _ rfl
      try dsimp only at hm0
      obtain rfl:=sI9 hm0;exact b04 vb9 (b0e _)
     ·rw [b0q hc18] at hm1;simp only [b0s,b02,b0f];refine hK8 _ _ ?_;apply b03;intro K hK;simp only [go_sem,s12];apply hK;simp only [b02,b0f];obtain rfl:=sI9 hm1;refine ⟨_,rfl,?_⟩;exact ⟨s2,s10,s11,(by first|(simp only [go_sem,s12,lA9,mA9]; done)|rfl)⟩
   ·rw [b0q hc7] at hm1;simp only [b09,b1b,b1a,c0s,b02,b0f,Nat.reduceEqDiff,nF9];obtain rfl:=sI9 hm1;obtain rfl:=hb5 _ rfl
    try dsimp only at hm0
    exact J4  _ _  hm0
theorem d3g (hf:Has O "newel/situation.Asked$1" x_situation_AskedD1) (d3l:d0o O):d0j O:=by
 intro x c0 r hm0;unfold b82 at hm0;refine b1i hf rfl (b0a (.agg _ (b0a (b0e _) (b0a (b0e _) (b0a (b0e _) (b0a (b0e _) b0j))))) (b0a (.fp _ _ (b0a (b0c fun a _=>b0z a) (b0a (b0c fun a _=>b0z a) (b0a (b0c fun a _=>b1q a) (b0a (b0c fun a _=>b1s a) (b0a (b0c fun a _=>b1r a) b0j)))))) b0j)) (b0e _) ?_;refine b1c (fun t h=>t 0 = .agg [I x.Kind,I x.Number,I x.Value,B x.Not]/\t 1 = .fp (vM c0) 0) ⟨rfl,rfl⟩ fun t h ⟨s0,s1⟩=>?_;simp only [x_situation_AskedD1];apply b0b;intro K hK;simp only [go_sem,s0];apply hK;obtain ⟨y2,h_y2,hm0⟩:=b0g hm0;apply b0b;intro K hK;simp only [go_sem,s1];refine b01 (d3l c0 x _ h_y2) ?_;simp only [go_sem,s1];apply hK;simp only [b0x,b1p,b2e,b0y];obtain rfl:=sI9 hm0;exact b04 vb9 (b0e _)
theorem d3h (hf:Has O "newel/situation.Check" x_situation_Check) (b4q:c5u O) (d3m:d0p O) (c3p:c5t O) (b8n:c1o O) (d3i:d0l O):d0k O:=by
 intro m r hm0;unfold c4v at hm0;refine b1i hf rfl (b0a (fM _) b0j) (b0e _) ?_;refine b1c (fun t h=>t 0 = .agg (vM m)) rfl fun t h s0=>?_;simp only [x_situation_Check];apply b0b;intro K hK;simp only [go_sem,s0];apply hK;refine b0v ?_;obtain ⟨c4,h_c4,hm0⟩:=b0g hm0;refine b2p (fun t h=>t 1 = .fp (vM m) 0/\t 46=B c4) (fun K hK=>?_) ?_
 ·simp only [go_sem];refine b0k (fun hg5=>?_) (fun hg5=>?_)
  ·simp only [hg5,Bool.not_true,Bool.not_false,eq_self,if_true,if_false,Bool.true_or,Bool.or_true,Bool.false_or,Bool.or_false,Bool.true_and,Bool.and_true,Bool.false_and,Bool.and_false,fT9] at h_c4;obtain rfl:=sI9 h_c4;simp only [go_sem,hg5];exact hK _ _ ⟨(by first|(simp only [go_sem,hg5,lA9,mA9]; done)|rfl),(by first|(simp only [go_sem,hg5,lA9,mA9]; done)|rfl)⟩
  ·simp only [go_sem,hg5];refine b0k (fun hg6=>?_) (fun hg6=>?_)
   ·simp only [hg5,hg6,Bool.not_true,Bool.not_false,eq_self,if_true,if_false,Bool.true_or,Bool.or_true,Bool.false_or,Bool.or_false,Bool.true_and,Bool.and_true,Bool.false_and,Bool.and_false,fT9] at h_c4;obtain rfl:=sI9 h_c4;simp only [go_sem,hg5,hg6];exact hK _ _ ⟨(by first|(simp only [go_sem,hg5,hg6,lA9,mA9]; done)|rfl),(by first|(simp only [go_sem,hg5,hg6,lA9,mA9]; done)|rfl)⟩
   ·simp only [go_sem,hg5,hg6];refine b0k (fun hg7=>?_) (fun hg7=>?_)
    ·simp only [hg5,hg6,hg7,Bool.not_true,Bool.not_false,eq_self,if_true,if_false,Bool.true_or,Bool.or_true,Bool.false_or,Bool.or_false,Bool.true_and,Bool.and_true,Bool.false_and,Bool.and_false,fT9] at h_c4;obtain rfl:=sI9 h_c4;simp only [go_sem,hg5,hg6,hg7];exact hK _ _ ⟨(by first|(simp only [go_sem,hg5,hg6,hg7,lA9,mA9]; done)|rfl),(by first|(simp only [go_sem,hg5,hg6,hg7,lA9,mA9]; done)|rfl)⟩
    ·simp only [go_sem,hg5,hg6,hg7];refine b01 (b4q (List.length m.States:Int) 1 12) ?_;simp only [go_sem,hg5,hg6,hg7];refine b0k (fun hg8=>?_) (fun hg8=>?_)
     ·simp only [hg5,hg6,hg7,hg8,Bool.not_true,Bool.not_false,eq_self,if_true,if_false,Bool.true_or,Bool.or_true,Bool.false_or,Bool.or_false,Bool.true_and,Bool.and_true,Bool.false_and,Bool.and_false,fT9] at h_c4;obtain rfl:=sI9 h_c4;simp only [go_sem,hg5,hg6,hg7,hg8];exact hK _ _ ⟨(by first|(simp only [go_sem,hg5,hg6,hg7,hg8,lA9,mA9]; done)|rfl),(by first|(simp only [go_sem,hg5,hg6,hg7,hg8,lA9,mA9]; done)|rfl)⟩
     ·simp only [go_sem,hg5,hg6,hg7,hg8];refine b0k (fun hg9=>?_) (fun hg9=>?_)
      ·simp only [hg5,hg6,hg7,hg8,hg9,Bool.not_true,Bool.not_false,eq_self,if_true,if_false,Bool.true_or,Bool.or_true,Bool.false_or,Bool.or_false,Bool.true_and,Bool.and_true,Bool.false_and,Bool.and_false,fT9] at h_c4;obtain rfl:=sI9 h_c4;simp only [go_sem,hg5,hg6,hg7,hg8,hg9];exact hK _ _ ⟨(by first|(simp only [go_sem,hg5,hg6,hg7,hg8,hg9,lA9,mA9]; done)|rfl),(by first|(simp only [go_sem,hg5,hg6,hg7,hg8,hg9,lA9,mA9]; done)|rfl)⟩
      ·simp only [hg5,hg6,hg7,hg8,hg9,Bool.not_true,Bool.not_false,eq_self,if_true,if_false,Bool.true_or,Bool.or_true,Bool.false_or,Bool.or_false,Bool.true_and,Bool.and_true,Bool.false_and,Bool.and_false,fT9] at h_c4;obtain ⟨y3,h_y3,h_c4⟩:=b0g h_c4;obtain rfl:=sI9 h_c4;simp only [go_sem,hg5,hg6,hg7,hg8,hg9];refine b01 (d3m m _ h_y3) ?_;simp only [go_sem,hg5,hg6,hg7,hg8,hg9];exact hK _ _ ⟨(by first|(simp only [go_sem,hg5,hg6,hg7,hg8,hg9,lA9,mA9]; done)|rfl),(by first|(simp only [go_sem,hg5,hg6,hg7,hg8,hg9,lA9,mA9]; done)|rfl)⟩
 ·rintro t h ⟨s1,s46⟩;refine b0i fun K10 hK10=>?_;simp only [go_sem,s46];refine b0k (fun hc11=>?_) (fun hc11=>?_)
  ·rw [b0r hc11] at hm0;apply b0b;intro K hK;simp only [go_sem];apply hK;simp only [b0x,b1p,b2e,b0y];obtain rfl:=sI9 hm0;exact b04 vb9 (b0e _)
  ·rw [b0q hc11] at hm0;simp only [b0s,b02,b0f];refine hK10 _ _ ?_;refine b0v ?_;apply b0b;intro K hK;simp only [go_sem,s1];apply hK;refine b0i fun K12 hK12=>?_
   have J13:∀ (t:Slots) (h:Heap),t 1 = .fp (vM m) 0->p84 m=some r->K12 t h:=by
    intro t h s1 hm0;refine hK12 _ _ ?_;unfold p84 at hm0;refine b0v ?_;apply b0b;intro K hK;simp only [go_sem,s1];apply hK;refine b0i fun K14 hK14=>?_
    have J15:∀ (t:Slots) (h:Heap),t 1 = .fp (vM m) 0->c85 m=some r->K14 t h:=by
     intro t h s1 hm0;refine hK14 _ _ ?_;unfold c85 at hm0;refine b0v ?_;apply b0b;intro K hK;simp only [go_sem,s1];apply hK;refine b0i fun K16 hK16=>?_
     have J17:∀ (t:Slots) (h:Heap),d47=some r->K16 t h:=by
      intro t h hm0;refine hK16 _ _ ?_;unfold d47 at hm0;apply b0b;intro K hK;simp only [go_sem];apply hK;simp only [b0x,b1p,b2e,b0y];obtain rfl:=sI9 hm0;exact b04 vb9 (b0e _)
     simp only [b0u];obtain ⟨b18,hl18,hm0⟩:=b0g hm0;refine b1j hl18 (fun|x_79,t,h=>t 1 = .fp (vM m) 0/\t 77 = .fs 4 (List.map b0m m.Rules)/\t 78=I (List.length m.Rules:Int)/\t 79=I x_79) ?_ ?_
     ·exact ⟨s1,va9,va9,va9⟩
     ·rintro x_79 o t h ⟨s1,s77,s78,s79⟩ hm1 hb18;simp only [b83] at hm1;rw [g49];apply b0b;intro K hK;simp only [go_sem,s78,s79];apply hK;refine b0i fun K19 hK19=>?_;simp only [go_sem];refine b0k (fun hc20=>?_) (fun hc20=>?_)
      ·rw [b0r hc20] at hm1;simp only [b0s,b02,b0f];refine hK19 _ _ ?_;refine b0i fun K21 hK21=>?_
       have J22:∀ (t:Slots) (h:Heap),t 1 = .fp (vM m) 0->t 77 = .fs 4 (List.map b0m m.Rules)->t 78=I (List.length m.Rules:Int)->t 79=I x_79->c86 x_79=some o->K21 t h:=by
        intro t h s1 s77 s78 s79 hm1;refine hK21 _ _ ?_;unfold c86 at hm1;apply b03;intro K hK;simp only [go_sem,s79];apply hK;simp only [b02,b0f];obtain rfl:=sI9 hm1;refine ⟨_,rfl,?_⟩;exact ⟨s1,s77,s78,(by first|(simp only [go_sem,s79,lA9,mA9]; done)|rfl)⟩
       simp only [b0u];obtain ⟨x24,h_x24,hm1⟩:=b0g hm1;have h_x240:=b05 h_x24;have h_x241:=b06 h_x24;apply b0b;intro K hK;simp only [go_sem,s77,s79,b08 h_x24,b3n h_x24,h_x240,h_x241];apply hK;refine b0v ?_;obtain ⟨c28,h_c28,hm1⟩:=b0g hm1;refine b2p (fun t h=>∃ i8:Nat,t 1 = .fp (vM m) 0/\t 8 = .rp i8 0 0/\t 77 = .fs 4 (List.map b0m m.Rules)/\t 78=I (List.length m.Rules:Int)/\t 79=I x_79/\t 113=B (c28 || (decide (4<(List.length x24.Sets:Int))))/\h.ob i8=some (4,[[I x24.From,I x24.To,.fs 1 (List.map b0t x24.When),.fs 2 (List.map b2o x24.Sets)]])/\i8<h.nx) (fun K hK=>?_) ?_
       ·simp only [go_sem,s1];refine b01 (b4q x24.From (-1) (wr ((List.length m.States:Int) - 1))) ?_;simp only [go_sem,s1];refine b0k (fun hg29=>?_) (fun hg29=>?_)
        ·simp only [hg29,Bool.not_true,Bool.not_false,eq_self,if_true,if_false,Bool.true_or,Bool.or_true,Bool.false_or,Bool.or_false,Bool.true_and,Bool.and_true,Bool.false_and,Bool.and_false,fT9] at h_c28;obtain rfl:=sI9 h_c28;simp only [go_sem,s1,hg29];exact hK _ _ ⟨h.nx,s1,(by first|(simp only [go_sem,hg29,lA9,mA9]; done)|rfl),s77,s78,s79,(by first|(simp only [go_sem,hg29,lA9,mA9]; done)|rfl),(by simp only [go_sem,hg29,lA9,mA9]),ve9⟩
        ·simp only [go_sem,s1,hg29];refine b01 (b4q x24.To 0 (wr ((List.length m.States:Int) - 1))) ?_;simp only [go_sem,s1,hg29];refine b0k (fun hg30=>?_) (fun hg30=>?_)
         ·simp only [hg29,hg30,Bool.not_true,Bool.not_false,eq_self,if_true,if_false,Bool.true_or,Bool.or_true,Bool.false_or,Bool.or_false,Bool.true_and,Bool.and_true,Bool.false_and,Bool.and_false,fT9] at h_c28;obtain rfl:=sI9 h_c28;simp only [go_sem,s1,hg29,hg30];exact hK _ _ ⟨h.nx,s1,(by first|(simp only [go_sem,hg29,hg30,lA9,mA9]; done)|rfl),s77,s78,s79,(by first|(simp only [go_sem,hg29,hg30,lA9,mA9]; done)|rfl),(by simp only [go_sem,hg29,hg30,lA9,mA9]),ve9⟩
         ·simp only [hg29,hg30,Bool.not_true,Bool.not_false,eq_self,if_true,if_false,Bool.true_or,Bool.or_true,Bool.false_or,Bool.or_false,Bool.true_and,Bool.and_true,Bool.false_and,Bool.and_false,fT9] at h_c28;obtain ⟨y27,h_y27,h_c28⟩:=b0g h_c28;obtain rfl:=sI9 h_c28;simp only [go_sem,s1,hg29,hg30];refine b01 (c3p m x24.When _ h_y27) ?_;simp only [go_sem,s1,hg29,hg30];refine b0k (fun hg31=>?_) (fun hg31=>?_)
          ·simp only [go_sem,s1,hg29,hg30,hg31];exact hK _ _ ⟨h.nx,s1,(by first|(simp only [go_sem,hg29,hg30,hg31,lA9,mA9]; done)|rfl),s77,s78,s79,(by first|(simp only [go_sem,hg29,hg30,hg31,lA9,mA9]; done)|rfl),(by simp only [go_sem,hg29,hg30,hg31,lA9,mA9]),ve9⟩
          ·simp only [go_sem,s1,hg29,hg30,hg31];exact hK _ _ ⟨h.nx,s1,(by first|(simp only [go_sem,hg29,hg30,hg31,lA9,mA9]; done)|rfl),s77,s78,s79,(by first|(simp only [go_sem,hg29,hg30,hg31,lA9,mA9]; done)|rfl),(by simp only [go_sem,hg29,hg30,hg31,lA9,mA9]),ve9⟩
       ·rintro t h ⟨i8,s1,s8,s77,s78,s79,s113,Q4,Q3⟩;refine b0i fun K32 hK32=>?_;simp only [go_sem,s113];refine b0k (fun hc33=>?_) (fun hc33=>?_)
        ·rw [b0r hc33] at hm1;apply b0b;intro K hK;simp only [go_sem,Q3];apply hK;simp only [b0x,b1p,b2e,b0y];obtain rfl:=sI9 hm1;obtain rfl:=hb18 _ rfl
         try dsimp only at hm0
         obtain rfl:=sI9 hm0;exact b04 (by simp only [go_sem,Q4,Q3,lA9,mA9]) (b0e _)
        ·rw [b0q hc33] at hm1;simp only [b0s,b02,b0f];refine hK32 _ _ ?_;refine b0v ?_;apply b0b;intro K hK;simp only [go_sem,s8,Q4,Q3];apply hK;refine b0i fun K34 hK34=>?_
         have J35:∀ (t:Slots) (h:Heap),t 1 = .fp (vM m) 0->t 8 = .rp i8 0 0->t 77 = .fs 4 (List.map b0m m.Rules)->t 78=I (List.length m.Rules:Int)->t 79=I x_79->h.ob i8=some (4,[[I x24.From,I x24.To,.fs 1 (List.map b0t x24.When),.fs 2 (List.map b2o x24.Sets)]])->i8<h.nx->c87 m x_79 x24=some o->K34 t h:=by
          intro t h s1 s8 s77 s78 s79 Q4 Q3 hm1;refine hK34 _ _ ?_;unfold c87 at hm1;apply b0b;intro K hK;simp only [go_sem,s8,Q4,Q3];apply hK;simp only [b0u];obtain ⟨b36,hl36,hm1⟩:=b0g hm1;refine b1j hl36 (fun|x_127,t,h=>t 1 = .fp (vM m) 0/\t 77 = .fs 4 (List.map b0m m.Rules)/\t 78=I (List.length m.Rules:Int)/\t 79=I x_79/\t 125 = .fs 2 (List.map b2o x24.Sets)/\t 126=I (List.length x24.Sets:Int)/\t 127=I x_127) ?_ ?_
          ·exact ⟨s1,s77,s78,s79,va9,va9,va9⟩
          ·rintro x_127 o t h ⟨s1,s77,s78,s79,s125,s126,s127⟩ hm2 hb36;simp only [c4y] at hm2;rw [g48];apply b0b;intro K hK;simp only [go_sem,s126,s127];apply hK;refine b0i fun K37 hK37=>?_;simp only [go_sem];refine b0k (fun hc38=>?_) (fun hc38=>?_)
           ·rw [b0r hc38] at hm2;simp only [b0s,b02,b0f];refine hK37 _ _ ?_;refine b0i fun K39 hK39=>?_;simp only [b0u];obtain ⟨x41,h_x41,hm2⟩:=b0g hm2;have h_x410:=b05 h_x41;have h_x411:=b06 h_x41;apply b0b;intro K hK;simp only [go_sem,s125,s127,b08 h_x41,b3n h_x41,h_x410,h_x411];apply hK;refine b2p (fun t h=>t 1 = .fp (vM m) 0/\t 77 = .fs 4 (List.map b0m m.Rules)/\t 78=I (List.length m.Rules:Int)/\t 79=I x_79/\t 125 = .fs 2 (List.map b2o x24.Sets)/\t 126=I (List.length x24.Sets:Int)/\t 127=I x_127/\t 144=B ((!(b2q x41.Kind 1 3)) || (!(b2q x41.Counter 0 (wr ((List.length m.Counters:Int) - 1)))))) (fun K hK=>?_) ?_
            ·simp only [go_sem,s1];refine b01 (b4q x41.Kind 1 3) ?_;simp only [go_sem,s1];refine b0k (fun hg42=>?_) (fun hg42=>?_)
             ·simp only [go_sem,s1,hg42];exact hK _ _ ⟨s1,s77,s78,s79,s125,s126,s127,(by first|(simp only [go_sem,hg42,lA9,mA9]; done)|rfl)⟩
             ·simp only [go_sem,s1,hg42];refine b01 (b4q x41.Counter 0 (wr ((List.length m.Counters:Int) - 1))) ?_;simp only [go_sem,s1,hg42];exact hK _ _ ⟨s1,s77,s78,s79,s125,s126,s127,(by first|(simp only [go_sem,hg42,lA9,mA9]; done)|rfl)⟩
            ·rintro t h ⟨s1,s77,s78,s79,s125,s126,s127,s144⟩;simp only [go_sem,s144];refine b0k (fun hc43=>?_) (fun hc43=>?_)
             ·rw [b0r hc43] at hm2;apply b0b;intro K hK;simp only [go_sem];apply hK;simp only [b0x,b1p,b2e,b0y];obtain rfl:=sI9 hm2;obtain rfl:=hb36 _ rfl
              try dsimp only at hm1
              obtain rfl:=sI9 hm1;obtain rfl:=hb18 _ rfl
              try dsimp only at hm0
              obtain rfl:=sI9 hm0;exact b04 vb9 (b0e _)
             ·rw [b0q hc43] at hm2;simp only [b0s,b02,b0f];refine hK39 _ _ ?_;apply b03;intro K hK;simp only [go_sem,s127];apply hK;simp only [b02,b0f];obtain rfl:=sI9 hm2;refine ⟨_,rfl,?_⟩;exact ⟨s1,s77,s78,s79,s125,s126,(by first|(simp only [go_sem,s127,lA9,mA9]; done)|rfl)⟩
           ·rw [b0q hc38] at hm2;simp only [b09,b1b,b1a,c0s,b02,b0f,Nat.reduceEqDiff,nF9];obtain rfl:=sI9 hm2;obtain rfl:=hb36 _ rfl
            try dsimp only at hm1
            exact J22  _ _ s1 s77 s78 s79 hm1
         simp only [b0u];obtain ⟨b45,hl45,hm1⟩:=b0g hm1;refine b1j hl45 (fun|x_117,t,h=>t 1 = .fp (vM m) 0/\t 8 = .rp i8 0 0/\t 77 = .fs 4 (List.map b0m m.Rules)/\t 78=I (List.length m.Rules:Int)/\t 79=I x_79/\t 115 = .fs 1 (List.map b0t x24.When)/\t 116=I (List.length x24.When:Int)/\t 117=I x_117/\h.ob i8=some (4,[[I x24.From,I x24.To,.fs 1 (List.map b0t x24.When),.fs 2 (List.map b2o x24.Sets)]])/\i8<h.nx) ?_ ?_
         ·exact ⟨s1,s8,s77,s78,s79,va9,va9,va9,Q4,Q3⟩
         ·rintro x_117 o t h ⟨s1,s8,s77,s78,s79,s115,s116,s117,Q4,Q3⟩ hm2 hb45;simp only [c4x] at hm2;rw [g47];apply b0b;intro K hK;simp only [go_sem,s116,s117,Q3];apply hK;refine b0i fun K46 hK46=>?_;simp only [go_sem];refine b0k (fun hc47=>?_) (fun hc47=>?_)
          ·rw [b0r hc47] at hm2;simp only [b0s,b02,b0f];refine hK46 _ _ ?_;refine b0i fun K48 hK48=>?_;simp only [b0u];obtain ⟨x50,h_x50,hm2⟩:=b0g hm2;have h_x500:=b05 h_x50;have h_x501:=b06 h_x50;apply b0b;intro K hK;simp only [go_sem,s115,s117,Q3,b08 h_x50,b3n h_x50,h_x500,h_x501];apply hK;obtain ⟨y54,h_y54,hm2⟩:=b0g hm2;apply b0b;intro K hK;simp only [go_sem,Q3];refine b01 (b8n x50 "newel/situation.Check$1" [] [] (fun z53=>some (b7s z53)) (.fn _ _ _ b0j b0j) (fun z0 y hz=>by cases hz; exact d3i z0) _ h_y54) ?_;simp only [go_sem,Q3];apply hK;simp only [go_sem];refine b0k (fun hc55=>?_) (fun hc55=>?_)
           ·rw [b0r hc55] at hm2;apply b0b;intro K hK;simp only [go_sem,Q3];apply hK;simp only [b0x,b1p,b2e,b0y];obtain rfl:=sI9 hm2;obtain rfl:=hb45 _ rfl
            try dsimp only at hm1
            obtain rfl:=sI9 hm1;obtain rfl:=hb18 _ rfl
            try dsimp only at hm0
            obtain rfl:=sI9 hm0;exact b04 (by simp only [go_sem,Q4,Q3,lA9,mA9]) (b0e _)
           ·rw [b0q hc55] at hm2;simp only [b0s,b02,b0f];refine hK48 _ _ ?_;apply b03;intro K hK;simp only [go_sem,s117,Q3];apply hK;simp only [b02,b0f];obtain rfl:=sI9 hm2;refine ⟨_,rfl,?_⟩;exact ⟨s1,s8,s77,s78,s79,s115,s116,(by first|(simp only [go_sem,s117,lA9,mA9]; done)|rfl),Q4,Q3⟩
          ·rw [b0q hc47] at hm2;simp only [b09,b1b,b1a,c0s,b02,b0f,Nat.reduceEqDiff,nF9];obtain rfl:=sI9 hm2;obtain rfl:=hb45 _ rfl
           try dsimp only at hm1
           exact J35  _ _ s1 s8 s77 s78 s79 Q4 Q3 hm1
      ·rw [b0q hc20] at hm1;simp only [b09,b1b,b1a,c0s,b02,b0f,Nat.reduceEqDiff,nF9];obtain rfl:=sI9 hm1;obtain rfl:=hb18 _ rfl
       try dsimp only at hm0
       exact J17  _ _  hm0
    simp only [b0u];obtain ⟨b58,hl58,hm0⟩:=b0g hm0;refine b1j hl58 (fun|x_62,t,h=>t 1 = .fp (vM m) 0/\t 60 = .fs 2 (List.map b0p m.States)/\t 61=I (List.length m.States:Int)/\t 62=I x_62) ?_ ?_
    ·exact ⟨s1,va9,va9,va9⟩
    ·rintro x_62 o t h ⟨s1,s60,s61,s62⟩ hm1 hb58;simp only [c4w] at hm1;rw [g46];apply b0b;intro K hK;simp only [go_sem,s61,s62];apply hK;refine b0i fun K59 hK59=>?_;simp only [go_sem];refine b0k (fun hc60=>?_) (fun hc60=>?_)
     ·rw [b0r hc60] at hm1;simp only [b0s,b02,b0f];refine hK59 _ _ ?_;refine b0i fun K61 hK61=>?_;simp only [b0u];obtain ⟨x63,h_x63,hm1⟩:=b0g hm1;have h_x630:=b05 h_x63;have h_x631:=b06 h_x63;apply b0b;intro K hK;simp only [go_sem,s60,s62,b08 h_x63,b3n h_x63,h_x630,h_x631];apply hK;obtain ⟨q65,h_q65,hm1⟩:=b0g hm1;apply b0b;intro K hK;simp only [go_sem,s1,B8s h_q65];refine b01 (b4q x63.Shows 0 (wr (q65 - 1))) ?_;simp only [go_sem,s1,B8s h_q65];apply hK;simp only [go_sem];refine b0k (fun hc66=>?_) (fun hc66=>?_)
      ·rw [b0r hc66] at hm1;apply b0b;intro K hK;simp only [go_sem];apply hK;simp only [b0x,b1p,b2e,b0y];obtain rfl:=sI9 hm1;obtain rfl:=hb58 _ rfl
       try dsimp only at hm0
       obtain rfl:=sI9 hm0;exact b04 vb9 (b0e _)
      ·rw [b0q hc66] at hm1;simp only [b0s,b02,b0f];refine hK61 _ _ ?_;apply b03;intro K hK;simp only [go_sem,s62];apply hK;simp only [b02,b0f];obtain rfl:=sI9 hm1;refine ⟨_,rfl,?_⟩;exact ⟨s1,s60,s61,(by first|(simp only [go_sem,s62,lA9,mA9]; done)|rfl)⟩
     ·rw [b0q hc60] at hm1;simp only [b09,b1b,b1a,c0s,b02,b0f,Nat.reduceEqDiff,nF9];obtain rfl:=sI9 hm1;obtain rfl:=hb58 _ rfl
      try dsimp only at hm0
      exact J15  _ _ s1 hm0
   simp only [b0u];obtain ⟨b68,hl68,hm0⟩:=b0g hm0;refine b1j hl68 (fun|x_50,t,h=>t 1 = .fp (vM m) 0/\t 48 = .fs 2 (List.map b0o m.Counters)/\t 49=I (List.length m.Counters:Int)/\t 50=I x_50) ?_ ?_
   ·exact ⟨s1,va9,va9,va9⟩
   ·rintro x_50 o t h ⟨s1,s48,s49,s50⟩ hm1 hb68;simp only [c4z] at hm1;rw [g5a];apply b0b;intro K hK;simp only [go_sem,s49,s50];apply hK;refine b0i fun K69 hK69=>?_;simp only [go_sem];refine b0k (fun hc70=>?_) (fun hc70=>?_)
    ·rw [b0r hc70] at hm1;simp only [b0s,b02,b0f];refine hK69 _ _ ?_;refine b0i fun K71 hK71=>?_;simp only [b0u];obtain ⟨x73,h_x73,hm1⟩:=b0g hm1;have h_x730:=b05 h_x73;have h_x731:=b06 h_x73;apply b0b;intro K hK;simp only [go_sem,s48,s50,b08 h_x73,b3n h_x73,h_x730,h_x731];apply hK;apply b0b;intro K hK;simp only [go_sem];refine b01 (b4q x73.Max 1 7) ?_;simp only [go_sem];apply hK;simp only [go_sem];refine b0k (fun hc74=>?_) (fun hc74=>?_)
     ·rw [b0r hc74] at hm1;apply b0b;intro K hK;simp only [go_sem];apply hK;simp only [b0x,b1p,b2e,b0y];obtain rfl:=sI9 hm1;obtain rfl:=hb68 _ rfl
      try dsimp only at hm0
      obtain rfl:=sI9 hm0;exact b04 vb9 (b0e _)
     ·rw [b0q hc74] at hm1;simp only [b0s,b02,b0f];refine hK71 _ _ ?_;apply b03;intro K hK;simp only [go_sem,s50];apply hK;simp only [b02,b0f];obtain rfl:=sI9 hm1;refine ⟨_,rfl,?_⟩;exact ⟨s1,s48,s49,(by first|(simp only [go_sem,s50,lA9,mA9]; done)|rfl)⟩
    ·rw [b0q hc70] at hm1;simp only [b09,b1b,b1a,c0s,b02,b0f,Nat.reduceEqDiff,nF9];obtain rfl:=sI9 hm1;obtain rfl:=hb68 _ rfl
     try dsimp only at hm0
     exact J13  _ _ s1 hm0
theorem d3i (hf:Has O "newel/situation.Check$1" x_situation_CheckD1):d0l O:=by
 intro x;generalize hm0:b7s x=r;unfold b7s at hm0;refine b1i hf rfl (b0a (.agg _ (b0a (b0e _) (b0a (b0e _) (b0a (b0e _) (b0a (b0e _) b0j))))) b0j) (b0e _) ?_;refine b1c (fun t h=>t 0 = .agg [I x.Kind,I x.Number,I x.Value,B x.Not]) rfl fun t h s0=>?_;simp only [x_situation_CheckD1];apply b0b;intro K hK;simp only [go_sem,s0];apply hK;apply b0b;intro K hK;simp only [go_sem];apply hK;simp only [b0x,b1p,b2e,b0y];obtain rfl:=hm0;exact b04 vb9 (b0e _)
theorem d3j (hf:Has O "newel/situation.Plain" x_situation_Plain):d0m O:=by
 intro word r hm0;unfold r1j at hm0;refine b1i hf rfl (b0a (b0e _) b0j) (b0e _) ?_;refine b1c (fun t h=>t 0 = .v (.string word)) rfl fun t h s0=>?_;simp only [x_situation_Plain];apply b0b;intro K hK;simp only [go_sem];apply hK;refine b0v ?_;apply b0b;intro K hK;simp only [go_sem,s0];refine j5y (O:=O) ?_;simp only [go_sem,s0];apply hK;refine b0i fun K1 hK1=>?_
 have J2:∀ (t:Slots) (h:Heap),t 0 = .v (.string word)->d48 word=some r->K1 t h:=by
  intro t h s0 hm0;refine hK1 _ _ ?_;unfold d48 at hm0;apply b0b;intro K hK;simp only [go_sem,s0];apply hK;simp only [b0x,b1p,b2e,b0y];obtain rfl:=sI9 hm0;exact b04 vb9 (b0e _)
 simp only [b0u];obtain ⟨b3,hl3,hm0⟩:=b0g hm0;refine b1j hl3 (fun|x_8,t,h=>t 0 = .v (.string word)/\t 6 = .fs 1 (List.map c2m (b3q word))/\t 7=I (List.length (b3q word):Int)/\t 8=I x_8) ?_ ?_
 ·exact ⟨s0,va9,va9,va9⟩
 ·rintro x_8 o t h ⟨s0,s6,s7,s8⟩ hm1 hb3;simp only [c42] at hm1;rw [g5b];apply b0b;intro K hK;simp only [go_sem,s7,s8];apply hK;refine b0i fun K4 hK4=>?_;simp only [go_sem];refine b0k (fun hc5=>?_) (fun hc5=>?_)
  ·rw [b0r hc5] at hm1;simp only [b0s,b02,b0f];refine hK4 _ _ ?_;refine b0i fun K6 hK6=>?_;simp only [b0u];obtain ⟨x8,h_x8,hm1⟩:=b0g hm1;have h_x80:=b05 h_x8;have h_x81:=b06 h_x8;apply b0b;intro K hK;simp only [go_sem,s6,s8,b08 h_x8,b3n h_x8,h_x80,h_x81];apply hK;refine b2p (fun t h=>t 0 = .v (.string word)/\t 6 = .fs 1 (List.map c2m (b3q word))/\t 7=I (List.length (b3q word):Int)/\t 8=I x_8/\t 17=B ((decide (x8<97)) || (decide (122<x8)))) (fun K hK=>?_) ?_
   ·simp only [go_sem];refine b0k (fun hg9=>?_) (fun hg9=>?_)
    ·simp only [go_sem,hg9];exact hK _ _ ⟨s0,s6,s7,s8,(by first|(simp only [go_sem,hg9,lA9,mA9]; done)|rfl)⟩
    ·simp only [go_sem,hg9];exact hK _ _ ⟨s0,s6,s7,s8,(by first|(simp only [go_sem,hg9,lA9,mA9]; done)|rfl)⟩
   ·rintro t h ⟨s0,s6,s7,s8,s17⟩;simp only [go_sem,s17];refine b0k (fun hc10=>?_) (fun hc10=>?_)
    ·rw [b0r hc10] at hm1;apply b0b;intro K hK;simp only [go_sem];apply hK;simp only [b0x,b1p,b2e,b0y];obtain rfl:=sI9 hm1;obtain rfl:=hb3 _ rfl
     try dsimp only at hm0
     obtain rfl:=sI9 hm0;exact b04 vb9 (b0e _)
    ·rw [b0q hc10] at hm1;simp only [b0s,b02,b0f];refine hK6 _ _ ?_;apply b03;intro K hK;simp only [go_sem,s8];apply hK;simp only [b02,b0f];obtain rfl:=sI9 hm1;refine ⟨_,rfl,?_⟩;exact ⟨s0,s6,s7,(by first|(simp only [go_sem,s8,lA9,mA9]; done)|rfl)⟩
  ·rw [b0q hc5] at hm1;simp only [b09,b1b,b1a,c0s,b02,b0f,Nat.reduceEqDiff,nF9];obtain rfl:=sI9 hm1;obtain rfl:=hb3 _ rfl
   try dsimp only at hm0
   exact J2  _ _ s0 hm0
theorem d3k (hf:Has O "newel/situation.Reserved" x_situation_Reserved):d0n O:=by
 intro word;generalize hm0:b84 word=r;unfold b84 at hm0;refine b1i hf rfl (b0a (b0e _) b0j) (b0e _) ?_;refine b1c (fun t h=>t 0 = .v (.string word)) rfl fun t h s0=>?_;simp only [x_situation_Reserved];apply b0b;intro K hK;simp only [go_sem];apply hK;refine b0v ?_;apply b0b;intro K hK;simp only [go_sem,s0];apply hK;refine b0i fun K1 hK1=>?_;simp only [b0u];refine b0v ?_;apply b0b;intro K hK;simp only [go_sem];apply hK;refine b0i fun K2 hK2=>?_
 have J3:∀ (x_4:Bool) (t:Slots) (h:Heap),t 4=B x_4->b5w x_4=r->K2 t h:=by
  intro x_4 t h s4 hm0;refine hK2 _ _ ?_;unfold b5w at hm0;simp only [go_sem,s4];refine b0k (fun hc4=>?_) (fun hc4=>?_)
  ·rw [b0r hc4] at hm0;apply b0b;intro K hK;simp only [go_sem];apply hK;simp only [b0x,b1p,b2e,b0y];obtain rfl:=hm0;exact b04 vb9 (b0e _)
  ·rw [b0q hc4] at hm0;simp only [b0s,b02,b0f];refine hK1 _ _ ?_;apply b0b;intro K hK;simp only [go_sem];apply hK;simp only [b0x,b1p,b2e,b0y];obtain rfl:=hm0;exact b04 vb9 (b0e _)
 simp only [go_sem];refine b0k (fun hc5=>?_) (fun hc5=>?_)
 ·rw [b0r hc5] at hm0;simp only [b0s,b02,b0f];exact J3 (decide (word=(ByteArray.mk #[97,110,121]))) _ _ va9 hm0
 ·rw [b0q hc5] at hm0;apply b0b;intro K hK;simp only [go_sem];apply hK;simp only [go_sem];refine b0k (fun hc6=>?_) (fun hc6=>?_)
  ·rw [b0r hc6] at hm0;simp only [b0s,b02,b0f];exact J3 (decide (word=(ByteArray.mk #[116,111]))) _ _ va9 hm0
  ·rw [b0q hc6] at hm0;apply b0b;intro K hK;simp only [go_sem];apply hK;simp only [go_sem];refine b0k (fun hc7=>?_) (fun hc7=>?_)
   ·rw [b0r hc7] at hm0;simp only [b0s,b02,b0f];exact J3 (decide (word=(ByteArray.mk #[122,101,114,111]))) _ _ va9 hm0
   ·rw [b0q hc7] at hm0;apply b0b;intro K hK;simp only [go_sem];apply hK;simp only [go_sem];refine b0k (fun hc8=>?_) (fun hc8=>?_)
    ·rw [b0r hc8] at hm0;simp only [b0s,b02,b0f];exact J3 (decide (word=(ByteArray.mk #[109,111,114,101]))) _ _ va9 hm0
    ·rw [b0q hc8] at hm0;apply b0b;intro K hK;simp only [go_sem];apply hK;simp only [go_sem];refine b0k (fun hc9=>?_) (fun hc9=>?_)
     ·rw [b0r hc9] at hm0;simp only [b0s,b02,b0f];exact J3 (decide (word=(ByteArray.mk #[108,101,115,115]))) _ _ va9 hm0
     ·rw [b0q hc9] at hm0;apply b0b;intro K hK;simp only [go_sem];apply hK;simp only [go_sem];refine b0k (fun hc10=>?_) (fun hc10=>?_)
      ·rw [b0r hc10] at hm0;simp only [b0s,b02,b0f];exact J3 (decide (word=(ByteArray.mk #[105,102]))) _ _ va9 hm0
      ·rw [b0q hc10] at hm0;apply b0b;intro K hK;simp only [go_sem];apply hK;simp only [go_sem];refine b0k (fun hc11=>?_) (fun hc11=>?_)
       ·rw [b0r hc11] at hm0;simp only [b0s,b02,b0f];exact J3 (decide (word=(ByteArray.mk #[121,101,115]))) _ _ va9 hm0
       ·rw [b0q hc11] at hm0;apply b03;intro K hK;simp only [go_sem];apply hK;simp only [b02,b0f];exact J3 (decide (word=(ByteArray.mk #[110,111]))) _ _ va9 hm0
theorem d3l (hf:Has O "newel/situation.asks" x_situation_asks) (b4q:c5u O):d0o O:=by
 intro m x r hm0;unfold c43 at hm0;refine b1i hf rfl (b0a (fM _) (b0a (.agg _ (b0a (b0e _) (b0a (b0e _) (b0a (b0e _) (b0a (b0e _) b0j))))) b0j)) (b0e _) ?_;refine b1c (fun t h=>t 0 = .agg (vM m)/\t 1 = .agg [I x.Kind,I x.Number,I x.Value,B x.Not]) ⟨rfl,rfl⟩ fun t h ⟨s0,s1⟩=>?_;simp only [x_situation_asks];apply b0b;intro K hK;simp only [go_sem,s0,s1];apply hK;refine b0v ?_;apply b0b;intro K hK;simp only [go_sem];apply hK;refine b0i fun K1 hK1=>?_;simp only [b0u];apply b0b;intro K hK;simp only [go_sem];apply hK;simp only [go_sem];refine b0k (fun hc2=>?_) (fun hc2=>?_)
 ·rw [b0r hc2] at hm0;refine b2p (fun t h=>t 4=B ((b2q x.Number 0 (wr ((List.length m.Inputs:Int) - 1))) && (decide (x.Value=0)))) (fun K hK=>?_) ?_
  ·simp only [go_sem];refine b01 (b4q x.Number 0 (wr ((List.length m.Inputs:Int) - 1))) ?_;simp only [go_sem];refine b0k (fun hg3=>?_) (fun hg3=>?_)
   ·simp only [go_sem,hg3];exact hK _ _ (by first|(simp only [go_sem,hg3,lA9,mA9]; done)|rfl)
   ·simp only [go_sem,hg3];exact hK _ _ (by first|(simp only [go_sem,hg3,lA9,mA9]; done)|rfl)
  ·rintro t h s4;simp only [b0x,b1p,b2e,b0y];obtain rfl:=sI9 hm0;exact b04 (by simp only [go_sem,s4,lA9,mA9]) (b0e _)
 ·rw [b0q hc2] at hm0;apply b0b;intro K hK;simp only [go_sem];apply hK;simp only [go_sem];refine b0k (fun hc4=>?_) (fun hc4=>?_)
  ·rw [b0r hc4] at hm0;obtain ⟨c8,h_c8,hm0⟩:=b0g hm0;refine b2p (fun t h=>t 4=B c8) (fun K hK=>?_) ?_
   ·simp only [go_sem];refine b01 (b4q x.Number 0 (wr ((List.length m.Counters:Int) - 1))) ?_;simp only [go_sem];refine b0k (fun hg9=>?_) (fun hg9=>?_)
    ·simp only [hg9,Bool.not_true,Bool.not_false,eq_self,if_true,if_false,Bool.true_or,Bool.or_true,Bool.false_or,Bool.or_false,Bool.true_and,Bool.and_true,Bool.false_and,Bool.and_false,fT9] at h_c8;obtain ⟨x7,h_x7,h_c8⟩:=b0g h_c8;have h_x70:=b05 h_x7;have h_x71:=b06 h_x7;obtain rfl:=sI9 h_c8;simp only [go_sem,b08 h_x7,b3n h_x7,h_x70,h_x71,hg9];refine b01 (b4q x.Value 0 x7.Max) ?_;simp only [go_sem,b08 h_x7,b3n h_x7,h_x70,h_x71,hg9];exact hK _ _ (by first|(simp only [go_sem,hg9,lA9,mA9]; done)|rfl)
    ·simp only [hg9,Bool.not_true,Bool.not_false,eq_self,if_true,if_false,Bool.true_or,Bool.or_true,Bool.false_or,Bool.or_false,Bool.true_and,Bool.and_true,Bool.false_and,Bool.and_false,fT9] at h_c8;obtain rfl:=sI9 h_c8;simp only [go_sem,hg9];exact hK _ _ (by first|(simp only [go_sem,hg9,lA9,mA9]; done)|rfl)
   ·rintro t h s4;simp only [b0x,b1p,b2e,b0y];obtain rfl:=sI9 hm0;exact b04 (by simp only [go_sem,s4,lA9,mA9]) (b0e _)
  ·rw [b0q hc4] at hm0;apply b0b;intro K hK;simp only [go_sem];apply hK;simp only [go_sem];refine b0k (fun hc10=>?_) (fun hc10=>?_)
   ·rw [b0r hc10] at hm0;refine b2p (fun t h=>t 4=B ((b2q x.Number 0 (wr ((List.length m.States:Int) - 1))) && (decide (x.Value=0)))) (fun K hK=>?_) ?_
    ·simp only [go_sem];refine b01 (b4q x.Number 0 (wr ((List.length m.States:Int) - 1))) ?_;simp only [go_sem];refine b0k (fun hg11=>?_) (fun hg11=>?_)
     ·simp only [go_sem,hg11];exact hK _ _ (by first|(simp only [go_sem,hg11,lA9,mA9]; done)|rfl)
     ·simp only [go_sem,hg11];exact hK _ _ (by first|(simp only [go_sem,hg11,lA9,mA9]; done)|rfl)
    ·rintro t h s4;simp only [b0x,b1p,b2e,b0y];obtain rfl:=sI9 hm0;exact b04 (by simp only [go_sem,s4,lA9,mA9]) (b0e _)
   ·rw [b0q hc10] at hm0;apply b0b;intro K hK;simp only [go_sem];apply hK;simp only [go_sem];refine b0k (fun hc12=>?_) (fun hc12=>?_)
    ·rw [b0r hc12] at hm0;refine b2p (fun t h=>t 4=B ((b2q x.Number 0 (wr ((List.length m.Outputs:Int) - 1))) && (decide (x.Value=0)))) (fun K hK=>?_) ?_
     ·simp only [go_sem];refine b01 (b4q x.Number 0 (wr ((List.length m.Outputs:Int) - 1))) ?_;simp only [go_sem];refine b0k (fun hg13=>?_) (fun hg13=>?_)
      ·simp only [go_sem,hg13];exact hK _ _ (by first|(simp only [go_sem,hg13,lA9,mA9]; done)|rfl)
      ·simp only [go_sem,hg13];exact hK _ _ (by first|(simp only [go_sem,hg13,lA9,mA9]; done)|rfl)
     ·rintro t h s4;simp only [b0x,b1p,b2e,b0y];obtain rfl:=sI9 hm0;exact b04 (by simp only [go_sem,s4,lA9,mA9]) (b0e _)
    ·rw [b0q hc12] at hm0;simp only [b0s,b02,b0f];refine hK1 _ _ ?_;apply b0b;intro K hK;simp only [go_sem];apply hK;simp only [b0x,b1p,b2e,b0y];obtain rfl:=sI9 hm0;exact b04 vb9 (b0e _)
theorem d3m (hf:Has O "newel/situation.named" x_situation_named) (d3n:d0q O) (d3j:d0m O) (d3k:d0n O):d0p O:=by
 intro m r hm0;unfold c44 at hm0;refine b1i hf rfl (b0a (fM _) b0j) (b0e _) ?_;refine b1c (fun t h=>t 0 = .agg (vM m)) rfl fun t h s0=>?_;simp only [x_situation_named];apply b0b;intro K hK;simp only [go_sem,s0];apply hK;apply b0b;intro K hK;simp only [go_sem];refine g0d (O:=O) (e:=List.map (eM vS vI) ([]:List (ByteArray × Int))) rfl ?_;simp only [go_sem];apply hK;refine b0v ?_;obtain ⟨y2,h_y2,hm0⟩:=b0g hm0;apply b0b;intro K hK;simp only [go_sem];refine b01 (d3n m _ h_y2) ?_;simp only [go_sem];apply hK;refine b0i fun K3 hK3=>?_
 have J4:∀ (t:Slots) (h:Heap),d49=some r->K3 t h:=by
  intro t h hm0;refine hK3 _ _ ?_;unfold d49 at hm0;apply b0b;intro K hK;simp only [go_sem];apply hK;simp only [b0x,b1p,b2e,b0y];obtain rfl:=sI9 hm0;exact b04 vb9 (b0e _)
 simp only [b0u];obtain ⟨b5,hl5,hm0⟩:=b0g hm0;refine b1j hl5 (fun|(seen_3,x_10),t,h=>∃ i3:Nat,t 3 = .mp i3/\t 8 = .fs 1 (List.map eS y2)/\t 9=I (List.length y2:Int)/\t 10=I x_10/\h.ob i3=some (0,List.map (eM vS vI) seen_3)/\i3<h.nx) ?_ ?_
 ·exact ⟨h.nx,va9,va9,va9,va9,vb9,ve9⟩
 ·rintro ⟨seen_3,x_10⟩ o t h ⟨i3,s3,s8,s9,s10,Q1,Q0⟩ hm1 hb5;simp only [c1i] at hm1;rw [g5c];apply b0b;intro K hK;simp only [go_sem,s9,s10,Q0];apply hK;refine b0i fun K6 hK6=>?_;simp only [go_sem];refine b0k (fun hc7=>?_) (fun hc7=>?_)
  ·rw [b0r hc7] at hm1;simp only [b0s,b02,b0f];refine hK6 _ _ ?_;refine b0i fun K8 hK8=>?_;simp only [b0u];obtain ⟨x10,h_x10,hm1⟩:=b0g hm1;have h_x100:=b05 h_x10;have h_x101:=b06 h_x10;apply b0b;intro K hK;simp only [go_sem,s8,s10,Q0,b08 h_x10,b3n h_x10,h_x100,h_x101];apply hK;apply b0b;intro K hK;simp only [go_sem,s3,Q1,Q0];refine g0c (O:=O) (fk:=vS) (fv:=vI) (l:=seen_3) (x:=x10) (z:=0) g1s d3z ?_ ?_ ?_
   ·rfl
   ·simp only [go_sem,Q1,Q0,lA9,mA9]
   simp only [go_sem,s3,Q1,Q0];refine d2i (O:=O) (fk:=vS) (fv:=vI) (l:=seen_3) (x:=x10) (v:=(wr ((b2w seen_3 x10 0)+1))) j8d d3z ?_ ?_ ?_
   ·rfl
   ·simp only [go_sem,Q1,Q0,lA9,mA9]
   simp only [go_sem,s3,Q1,Q0];apply hK;obtain ⟨y12,h_y12,hm1⟩:=b0g hm1;refine b2p (fun t h=>t 3 = .mp i3/\t 8 = .fs 1 (List.map eS y2)/\t 9=I (List.length y2:Int)/\t 10=I x_10/\t 35=B ((((!y12) || (decide (8<(ByteArray.size x10:Int)))) || (b84 x10)) || (decide (1<(b2w (b3w seen_3 x10 (wr ((b2w seen_3 x10 0)+1))) x10 0))))/\h.ob i3=some (0,List.map (eM vS vI) (b3w seen_3 x10 (wr ((b2w seen_3 x10 0)+1))))/\i3<h.nx) (fun K hK=>?_) ?_
   ·simp only [go_sem,s3,Q1,Q0];refine b01 (d3j x10 _ h_y12) ?_;simp only [go_sem,s3,Q1,Q0];refine b0k (fun hg13=>?_) (fun hg13=>?_)
    ·simp only [go_sem,s3,Q1,Q0,hg13];exact hK _ _ ⟨s3,s8,s9,s10,(by first|(simp only [go_sem,hg13,lA9,mA9]; done)|rfl),(by simp only [go_sem,Q1,Q0,hg13,lA9,mA9]),(by simp only [go_sem,Q0])⟩
    ·simp only [go_sem,s3,Q1,Q0,hg13];refine b0k (fun hg14=>?_) (fun hg14=>?_)
     ·simp only [go_sem,s3,Q1,Q0,hg13,hg14];exact hK _ _ ⟨s3,s8,s9,s10,(by first|(simp only [go_sem,hg13,hg14,lA9,mA9]; done)|rfl),(by simp only [go_sem,Q1,Q0,hg13,hg14,lA9,mA9]),(by simp only [go_sem,Q0])⟩
     ·simp only [go_sem,s3,Q1,Q0,hg13,hg14];refine b01 (d3k x10) ?_;simp only [go_sem,s3,Q1,Q0,hg13,hg14];refine b0k (fun hg15=>?_) (fun hg15=>?_)
      ·simp only [go_sem,s3,Q1,Q0,hg13,hg14,hg15];exact hK _ _ ⟨s3,s8,s9,s10,(by first|(simp only [go_sem,hg13,hg14,hg15,lA9,mA9]; done)|rfl),(by simp only [go_sem,Q1,Q0,hg13,hg14,hg15,lA9,mA9]),(by simp only [go_sem,Q0])⟩
      ·simp only [go_sem,s3,Q1,Q0,hg13,hg14,hg15];refine g0c (O:=O) (fk:=vS) (fv:=vI) (l:=(b3w seen_3 x10 (wr ((b2w seen_3 x10 0)+1)))) (x:=x10) (z:=0) g1s d3z ?_ ?_ ?_
       ·rfl
       ·simp only [go_sem,hg13,hg14,hg15,Q1,Q0,lA9,mA9]
       simp only [go_sem,s3,Q1,Q0,hg13,hg14,hg15];exact hK _ _ ⟨s3,s8,s9,s10,(by first|(simp only [go_sem,hg13,hg14,hg15,lA9,mA9]; done)|rfl),(by simp only [go_sem,Q1,Q0,hg13,hg14,hg15,lA9,mA9]),(by simp only [go_sem,Q0])⟩
   ·rintro t h ⟨s3,s8,s9,s10,s35,Q1,Q0⟩;simp only [go_sem,s35];refine b0k (fun hc16=>?_) (fun hc16=>?_)
    ·rw [b0r hc16] at hm1;apply b0b;intro K hK;simp only [go_sem,Q0];apply hK;simp only [b0x,b1p,b2e,b0y];obtain rfl:=sI9 hm1;obtain rfl:=hb5 _ rfl
     try dsimp only at hm0
     obtain rfl:=sI9 hm0;exact b04 (by simp only [go_sem,Q1,Q0,lA9,mA9]) (b0e _)
    ·rw [b0q hc16] at hm1;simp only [b0s,b02,b0f];refine hK8 _ _ ?_;apply b03;intro K hK;simp only [go_sem,s10,Q0];apply hK;simp only [b02,b0f];obtain rfl:=sI9 hm1;refine ⟨_,rfl,?_⟩;exact ⟨i3,s3,s8,s9,(by first|(simp only [go_sem,s10,lA9,mA9]; done)|rfl),Q1,Q0⟩
  ·rw [b0q hc7] at hm1;simp only [b09,b1b,b1a,c0s,b02,b0f,Nat.reduceEqDiff,nF9];obtain rfl:=sI9 hm1;obtain rfl:=hb5 _ rfl
   try dsimp only at hm0
   exact J4  _ _  hm0
theorem d3n (d3o:d0r O) (d3p:d0s O):d0q O:=by
 intro m r hm0;unfold c45 at hm0;split at hm0
 ·exact d3o m r hm0
 ·exact d3p m r hm0
theorem d3o (hf:Has O "newel/situation.names" x_situation_names) (d3q:d0t O):d0r O:=by
 intro m r hm0;unfold c88 at hm0;refine b1i hf rfl (b0a (fM _) b0j) (b0c fun a _=>b0z a) ?_;refine b1c (fun t h=>t 0 = .agg (vM m)) rfl fun t h s0=>?_;simp only [x_situation_names];apply b0b;intro K hK;simp only [go_sem,s0];apply hK;obtain ⟨y2,h_y2,hm0⟩:=b0g hm0;apply b0b;intro K hK;simp only [go_sem];refine j4w (e:=eS) (l:=y2) ?_ (d3q ([m.Inputs,m.Outputs]) _ h_y2) ?_
 ·exact .cons (b29 (f:=b4f) (l:=([m.Inputs,m.Outputs])) (id:=h.nx) vb9 vf9 c65 g1e) (.nil)
 simp only [go_sem];apply hK;refine b0v ?_;apply b0b;intro K hK;simp only [go_sem];apply hK;refine b0i fun K3 hK3=>?_
 have J4:∀ (l_3:List ByteArray) (i3:Nat) (t:Slots) (h:Heap),t 1 = .fp (vM m) 0->t 3 = .rs i3 0 (List.length l_3)->h.ob i3=some (1,List.map eS l_3)->i3<h.nx->c9b m l_3=some r->K3 t h:=by
  intro l_3 i3 t h s1 s3 Q1 Q0 hm0;refine hK3 _ _ ?_;unfold c9b at hm0;refine b0v ?_;apply b0b;intro K hK;simp only [go_sem,s1,Q0];apply hK;refine b0i fun K5 hK5=>?_
  have J6:∀ (l_3_1:List ByteArray) (i3_1:Nat) (t:Slots) (h:Heap),t 3 = .rs i3_1 0 (List.length l_3_1)->h.ob i3_1=some (1,List.map eS l_3_1)->i3_1<h.nx->c9c l_3_1=some r->K5 t h:=by
   intro l_3_1 i3_1 t h s3 Q1 Q0 hm0;refine hK5 _ _ ?_;unfold c9c at hm0;apply b0b;intro K hK;simp only [go_sem,s3,Q1,Q0];apply hK;simp only [b0x,b1p,b2e,b0y];obtain rfl:=sI9 hm0;exact b8e (v:=.rs i3_1 0 (List.length l_3_1)) (by simp only [go_sem,Q1,Q0,lA9,mA9]) (b29 (f:=eS) (l:=l_3_1) (id:=i3_1) (by simp only [go_sem,Q1,Q0,lA9,mA9]) vf9 b0z c3u)
  simp only [b0u];obtain ⟨b7,hl7,hm0⟩:=b0g hm0;refine b1j hl7 (fun|(l_3_1,x_30),t,h=>∃ i3_1:Nat,t 3 = .rs i3_1 0 (List.length l_3_1)/\t 28 = .fs 2 (List.map b0p m.States)/\t 29=I (List.length m.States:Int)/\t 30=I x_30/\h.ob i3_1=some (1,List.map eS l_3_1)/\i3_1<h.nx) ?_ ?_
  ·exact ⟨i3,(by first|exact s3|simp only [go_sem,s3,lA9,mA9]),va9,va9,va9,Q1,Q0⟩
  ·rintro ⟨l_3_1,x_30⟩ o t h ⟨i3_1,s3,s28,s29,s30,Q1,Q0⟩ hm1 hb7;simp only [c89] at hm1;rw [d5k];apply b0b;intro K hK;simp only [go_sem,s29,s30,Q0];apply hK;refine b0i fun K8 hK8=>?_;simp only [go_sem];refine b0k (fun hc9=>?_) (fun hc9=>?_)
   ·rw [b0r hc9] at hm1;simp only [b0s,b02,b0f];refine hK8 _ _ ?_;refine b0i fun K10 hK10=>?_;simp only [b0u];obtain ⟨x12,h_x12,hm1⟩:=b0g hm1;have h_x120:=b05 h_x12;have h_x121:=b06 h_x12;apply b0b;intro K hK;simp only [go_sem,s28,s30,Q0,b08 h_x12,b3n h_x12,h_x120,h_x121];apply hK;obtain ⟨l14,h_l14,hm1⟩:=b0g hm1;apply b03;intro K hK;simp only [go_sem,s3,Q1,Q0];refine b3a (f:=eS) (l:=l_3_1) (m:=([x12.Name])) ?_ ?_ ?_ ?_ h_l14 ?_
    ·exact (b2v (by simp only [go_sem,Q1,Q0,lA9,mA9]) (by simp only [go_sem,Q1,Q0,lA9,mA9]) (by simp only [go_sem,Q0]))
    ·exact (b4t (by simp only [go_sem,Q1,Q0,lA9,mA9]) (by simp only [go_sem,Q1,Q0,lA9,mA9]))
    ·exact (b4r vc9)
    ·exact (fun _=>by simp)
    simp only [go_sem,s3,Q1,Q0];apply hK;simp only [b02,b0f];refine hK10 _ _ ?_;apply b03;intro K hK;simp only [go_sem,s30,Q0];apply hK;simp only [b02,b0f];obtain rfl:=sI9 hm1;refine ⟨_,rfl,?_⟩;exact ⟨(nxs (nxs h.nx)),(by first|(simp only [go_sem,s3,lA9,mA9]; done)|rfl),s28,s29,(by first|(simp only [go_sem,s30,lA9,mA9]; done)|rfl),(by simp only [go_sem,Q0,lA9,mA9]),ve9⟩
   ·rw [b0q hc9] at hm1;simp only [b09,b1b,b1a,c0s,b02,b0f,Nat.reduceEqDiff,nF9];obtain rfl:=sI9 hm1;obtain rfl:=hb7 _ rfl
    try dsimp only at hm0
    exact J6 l_3_1 i3_1 _ _ (by first|exact s3|simp only [go_sem,s3,lA9,mA9]) Q1 Q0 hm0
 simp only [b0u];obtain ⟨b16,hl16,hm0⟩:=b0g hm0;refine b1j hl16 (fun|(l_3,x_17),t,h=>∃ i3:Nat,t 1 = .fp (vM m) 0/\t 3 = .rs i3 0 (List.length l_3)/\t 15 = .fs 2 (List.map b0o m.Counters)/\t 16=I (List.length m.Counters:Int)/\t 17=I x_17/\h.ob i3=some (1,List.map eS l_3)/\i3<h.nx) ?_ ?_
 ·exact ⟨(nxs h.nx),va9,va9,va9,va9,va9,vb9,ve9⟩
 ·rintro ⟨l_3,x_17⟩ o t h ⟨i3,s1,s3,s15,s16,s17,Q1,Q0⟩ hm1 hb16;simp only [c9a] at hm1;rw [d5l];apply b0b;intro K hK;simp only [go_sem,s16,s17,Q0];apply hK;refine b0i fun K17 hK17=>?_;simp only [go_sem];refine b0k (fun hc18=>?_) (fun hc18=>?_)
  ·rw [b0r hc18] at hm1;simp only [b0s,b02,b0f];refine hK17 _ _ ?_;refine b0i fun K19 hK19=>?_;simp only [b0u];obtain ⟨x21,h_x21,hm1⟩:=b0g hm1;have h_x210:=b05 h_x21;have h_x211:=b06 h_x21;apply b0b;intro K hK;simp only [go_sem,s15,s17,Q0,b08 h_x21,b3n h_x21,h_x210,h_x211];apply hK;obtain ⟨l23,h_l23,hm1⟩:=b0g hm1;apply b03;intro K hK;simp only [go_sem,s3,Q1,Q0];refine b3a (f:=eS) (l:=l_3) (m:=([x21.Name])) ?_ ?_ ?_ ?_ h_l23 ?_
   ·exact (b2v (by simp only [go_sem,Q1,Q0,lA9,mA9]) (by simp only [go_sem,Q1,Q0,lA9,mA9]) (by simp only [go_sem,Q0]))
   ·exact (b4t (by simp only [go_sem,Q1,Q0,lA9,mA9]) (by simp only [go_sem,Q1,Q0,lA9,mA9]))
   ·exact (b4r vc9)
   ·exact (fun _=>by simp)
   simp only [go_sem,s3,Q1,Q0];apply hK;simp only [b02,b0f];refine hK19 _ _ ?_;apply b03;intro K hK;simp only [go_sem,s17,Q0];apply hK;simp only [b02,b0f];obtain rfl:=sI9 hm1;refine ⟨_,rfl,?_⟩;exact ⟨(nxs (nxs h.nx)),s1,(by first|(simp only [go_sem,s3,lA9,mA9]; done)|rfl),s15,s16,(by first|(simp only [go_sem,s17,lA9,mA9]; done)|rfl),(by simp only [go_sem,Q0,lA9,mA9]),ve9⟩
  ·rw [b0q hc18] at hm1;simp only [b09,b1b,b1a,c0s,b02,b0f,Nat.reduceEqDiff,nF9];obtain rfl:=sI9 hm1;obtain rfl:=hb16 _ rfl
   try dsimp only at hm0
   exact J4 l_3 i3 _ _ s1 (by first|exact s3|simp only [go_sem,s3,lA9,mA9]) Q1 Q0 hm0
theorem d3p (hf:Has O "newel/situation.names" x_situation_names) (d3r:d0u O):d0s O:=by
 intro m r hm0;unfold c9d at hm0;refine b1i hf rfl (b0a (fM _) b0j) (b0c fun a _=>b0z a) ?_;refine b1c (fun t h=>t 0 = .agg (vM m)) rfl fun t h s0=>?_;simp only [x_situation_names];apply b0b;intro K hK;simp only [go_sem,s0];apply hK;obtain ⟨y2,h_y2,hm0⟩:=b0g hm0;apply b0b;intro K hK;simp only [go_sem];refine b8l ?_ (d3r ([m.Inputs,m.Outputs]) _ h_y2) (.v _) ?_
 ·exact .cons (b29 (f:=b4f) (l:=([m.Inputs,m.Outputs])) (id:=h.nx) vb9 vf9 c65 g1e) (.nil)
 simp only [go_sem];apply hK;refine b0v ?_;apply b0b;intro K hK;simp only [go_sem];apply hK;refine b0i fun K3 hK3=>?_
 have J4:∀ (l_3:List ByteArray) (v3:AV) (t:Slots) (h:Heap),t 1 = .fp (vM m) 0->t 3=v3->b2a h v3 1 (List.map eS l_3)->c9g m l_3=some r->K3 t h:=by
  intro l_3 v3 t h s1 s3 Q2 hm0;refine hK3 _ _ ?_;unfold c9g at hm0;refine b0v ?_;apply b0b;intro K hK;simp only [go_sem,s1,b5r v3];apply hK;refine b0i fun K5 hK5=>?_
  have J6:∀ (l_3_1:List ByteArray) (v3_1:AV) (t:Slots) (h:Heap),t 3=v3_1->b2a h v3_1 1 (List.map eS l_3_1)->c9h l_3_1=some r->K5 t h:=by
   intro l_3_1 v3_1 t h s3 Q2 hm0;refine hK5 _ _ ?_;unfold c9h at hm0;apply b0b;intro K hK;simp only [go_sem,s3,l3r Q2,b5r v3,b5r v3_1];apply hK;simp only [b0x,b1p,b2e,b0y];obtain rfl:=sI9 hm0;exact b8e (v:=v3_1) (by simp only [go_sem,b8s Q2,lA9,mA9]) (r8x (f:=eS) (l:=l_3_1) (b3x Q2 (by intro j hj hl; first|rfl|simp only [go_sem,hl]) (by first|omega|exact Nat.le_refl _|(simp only [go_sem,nxs] <;> omega))) b0z c3u)
  simp only [b0u];obtain ⟨b7,hl7,hm0⟩:=b0g hm0;refine b1j hl7 (fun|(l_3_1,x_30),t,h=>∃ v3_1:AV,t 3=v3_1/\t 28 = .fs 2 (List.map b0p m.States)/\t 29=I (List.length m.States:Int)/\t 30=I x_30/\b2a h v3_1 1 (List.map eS l_3_1)) ?_ ?_
  ·exact ⟨v3,s3,va9,va9,va9,Q2⟩
  ·rintro ⟨l_3_1,x_30⟩ o t h ⟨v3_1,s3,s28,s29,s30,Q2⟩ hm1 hb7;simp only [c9e] at hm1;rw [d5k];apply b0b;intro K hK;simp only [go_sem,s29,s30,b5r v3,b5r v3_1];apply hK;refine b0i fun K8 hK8=>?_;simp only [go_sem];refine b0k (fun hc9=>?_) (fun hc9=>?_)
   ·rw [b0r hc9] at hm1;simp only [b0s,b02,b0f];refine hK8 _ _ ?_;refine b0i fun K10 hK10=>?_;simp only [b0u];obtain ⟨x12,h_x12,hm1⟩:=b0g hm1;have h_x120:=b05 h_x12;have h_x121:=b06 h_x12;apply b0b;intro K hK;simp only [go_sem,s28,s30,b08 h_x12,b3n h_x12,h_x120,h_x121,b5r v3,b5r v3_1];apply hK;obtain ⟨l14,h_l14,hm1⟩:=b0g hm1;apply b03;intro K hK;simp only [go_sem,s3,l3r Q2,b5r v3,b5r v3_1];refine b3a (f:=eS) (l:=l_3_1) (m:=([x12.Name])) ?_ ?_ ?_ ?_ h_l14 ?_
    ·exact (b3x Q2 (by intro j hj hl; first|rfl|simp only [go_sem,hl]) (by first|omega|exact Nat.le_refl _|(simp only [go_sem,nxs] <;> omega)))
    ·exact (b4t (by simp only [go_sem,b8s Q2,lA9,mA9]) (by simp only [go_sem,b8s Q2,lA9,mA9]))
    ·exact (b4r vc9)
    ·exact (fun _=>by simp)
    simp only [go_sem,s3,l3r Q2,b5r v3,b5r v3_1];apply hK;simp only [b02,b0f];refine hK10 _ _ ?_;apply b03;intro K hK;simp only [go_sem,s30,b5r v3,b5r v3_1];apply hK;simp only [b02,b0f];obtain rfl:=sI9 hm1;refine ⟨_,rfl,?_⟩;exact ⟨(.rs (nxs (nxs h.nx)) 0 (List.length l14)),(by first|(simp only [go_sem,s3,lA9,mA9]; done)|rfl),s28,s29,(by first|(simp only [go_sem,s30,lA9,mA9]; done)|rfl),(b2v (by simp only [go_sem,b8s Q2,lA9,mA9]) vf9 ve9)⟩
   ·rw [b0q hc9] at hm1;simp only [b09,b1b,b1a,c0s,b02,b0f,Nat.reduceEqDiff,nF9];obtain rfl:=sI9 hm1;obtain rfl:=hb7 _ rfl
    try dsimp only at hm0
    exact J6 l_3_1 v3_1 _ _ s3 Q2 hm0
 simp only [b0u];obtain ⟨b16,hl16,hm0⟩:=b0g hm0;refine b1j hl16 (fun|(l_3,x_17),t,h=>∃ v3:AV,t 1 = .fp (vM m) 0/\t 3=v3/\t 15 = .fs 2 (List.map b0o m.Counters)/\t 16=I (List.length m.Counters:Int)/\t 17=I x_17/\b2a h v3 1 (List.map eS l_3)) ?_ ?_
 ·exact ⟨(.v (.slice none 0 0)),va9,va9,va9,va9,va9,c0o⟩
 ·rintro ⟨l_3,x_17⟩ o t h ⟨v3,s1,s3,s15,s16,s17,Q2⟩ hm1 hb16;simp only [c9f] at hm1;rw [d5l];apply b0b;intro K hK;simp only [go_sem,s16,s17,b5r v3];apply hK;refine b0i fun K17 hK17=>?_;simp only [go_sem];refine b0k (fun hc18=>?_) (fun hc18=>?_)
  ·rw [b0r hc18] at hm1;simp only [b0s,b02,b0f];refine hK17 _ _ ?_;refine b0i fun K19 hK19=>?_;simp only [b0u];obtain ⟨x21,h_x21,hm1⟩:=b0g hm1;have h_x210:=b05 h_x21;have h_x211:=b06 h_x21;apply b0b;intro K hK;simp only [go_sem,s15,s17,b08 h_x21,b3n h_x21,h_x210,h_x211,b5r v3];apply hK;obtain ⟨l23,h_l23,hm1⟩:=b0g hm1;apply b03;intro K hK;simp only [go_sem,s3,l3r Q2,b5r v3];refine b3a (f:=eS) (l:=l_3) (m:=([x21.Name])) ?_ ?_ ?_ ?_ h_l23 ?_
   ·exact (b3x Q2 (by intro j hj hl; first|rfl|simp only [go_sem,hl]) (by first|omega|exact Nat.le_refl _|(simp only [go_sem,nxs] <;> omega)))
   ·exact (b4t (by simp only [go_sem,b8s Q2,lA9,mA9]) (by simp only [go_sem,b8s Q2,lA9,mA9]))
   ·exact (b4r vc9)
   ·exact (fun _=>by simp)
   simp only [go_sem,s3,l3r Q2,b5r v3];apply hK;simp only [b02,b0f];refine hK19 _ _ ?_;apply b03;intro K hK;simp only [go_sem,s17,b5r v3];apply hK;simp only [b02,b0f];obtain rfl:=sI9 hm1;refine ⟨_,rfl,?_⟩;exact ⟨(.rs (nxs (nxs h.nx)) 0 (List.length l23)),s1,(by first|(simp only [go_sem,s3,lA9,mA9]; done)|rfl),s15,s16,(by first|(simp only [go_sem,s17,lA9,mA9]; done)|rfl),(b2v (by simp only [go_sem,b8s Q2,lA9,mA9]) vf9 ve9)⟩
  ·rw [b0q hc18] at hm1;simp only [b09,b1b,b1a,c0s,b02,b0f,Nat.reduceEqDiff,nF9];obtain rfl:=sI9 hm1;obtain rfl:=hb16 _ rfl
   try dsimp only at hm0
   exact J4 l_3 v3 _ _ s1 s3 Q2 hm0
theorem b4q (hf:Has O "newel/situation.within" x_situation_within):c5u O:=by
 intro n low high;generalize hm0:b2q n low high=r;unfold b2q at hm0;refine b1i hf rfl (b0a (b0e _) (b0a (b0e _) (b0a (b0e _) b0j))) (b0e _) ?_;refine b1c (fun t h=>t 0=I n/\t 1=I low/\t 2=I high) ⟨rfl,rfl,rfl⟩ fun t h ⟨s0,s1,s2⟩=>?_;simp only [x_situation_within];apply b0b;intro K hK;simp only [go_sem];apply hK;refine b2p (fun t h=>t 6=B ((decide (low<=n)) && (decide (n<=high)))) (fun K hK=>?_) ?_
 ·simp only [go_sem,s0,s1,s2];refine b0k (fun hg1=>?_) (fun hg1=>?_)
  ·simp only [go_sem,s0,s1,s2,hg1];exact hK _ _ (by first|(simp only [go_sem,hg1,lA9,mA9]; done)|rfl)
  ·simp only [go_sem,s0,s1,s2,hg1];exact hK _ _ (by first|(simp only [go_sem,hg1,lA9,mA9]; done)|rfl)
 ·rintro t h s6;simp only [b0x,b1p,b2e,b0y];obtain rfl:=hm0;exact b04 (by simp only [go_sem,s6,lA9,mA9]) (b0e _)
theorem d3t (hf:Has O "slices.ContainsFunc[newel/api.Cond,newel/api.Term]" x_slices_ContainsFunc_api_Cond_api_Term_) (d3v:d0y O):d0w O:=by
 intro s f_n f_a f_b f f_z f_h r hm0;unfold c9k at hm0;refine b1i hf rfl (b0a (b0c fun a _=>b2j a) (b0a f_z b0j)) (b0e _) ?_;refine b1c (fun t h=>t 0 = .fs 1 (List.map b0t s)/\t 1 = .fn f_n f_a f_b) ⟨rfl,rfl⟩ fun t h ⟨s0,s1⟩=>?_;simp only [x_slices_ContainsFunc_api_Cond_api_Term_];apply b0b;intro K hK;simp only [go_sem];apply hK;obtain ⟨y2,h_y2,hm0⟩:=b0g hm0;apply b0b;intro K hK;simp only [go_sem,s0,s1];refine b01 (d3v s f_n f_a f_b f f_z f_h _ h_y2) ?_;simp only [go_sem,s0,s1];apply hK;simp only [b0x,b1p,b2e,b0y];obtain rfl:=sI9 hm0;exact b04 vb9 (b0e _)
theorem b8n (hf:Has O "slices.ContainsFunc[newel/api.Term,newel/api.Literal]" x_slices_ContainsFunc_api_Term_api_Literal_) (d3w:d0z O):c1o O:=by
 intro s f_n f_a f_b f f_z f_h r hm0;unfold b7t at hm0;refine b1i hf rfl (b0a (b0c fun a _=>c2w a) (b0a f_z b0j)) (b0e _) ?_;refine b1c (fun t h=>t 0 = .fs 4 (List.map b3k s)/\t 1 = .fn f_n f_a f_b) ⟨rfl,rfl⟩ fun t h ⟨s0,s1⟩=>?_;simp only [x_slices_ContainsFunc_api_Term_api_Literal_];apply b0b;intro K hK;simp only [go_sem];apply hK;obtain ⟨y2,h_y2,hm0⟩:=b0g hm0;apply b0b;intro K hK;simp only [go_sem,s0,s1];refine b01 (d3w s f_n f_a f_b f f_z f_h _ h_y2) ?_;simp only [go_sem,s0,s1];apply hK;simp only [b0x,b1p,b2e,b0y];obtain rfl:=sI9 hm0;exact b04 vb9 (b0e _)
theorem d3v (hf:Has O "slices.IndexFunc[newel/api.Cond,newel/api.Term]" x_slices_IndexFunc_api_Cond_api_Term_):d0y O:=by
 intro s f_n f_a f_b f f_z f_h r hm0;unfold d5c at hm0;refine b1i hf rfl (b0a (b0c fun a _=>b2j a) (b0a f_z b0j)) (b0e _) ?_;refine b1c (fun t h=>t 0 = .fs 1 (List.map b0t s)/\t 1 = .fn f_n f_a f_b) ⟨rfl,rfl⟩ fun t h ⟨s0,s1⟩=>?_;simp only [x_slices_IndexFunc_api_Cond_api_Term_];apply b0b;intro K hK;simp only [go_sem];apply hK;refine b0v ?_;apply b0b;intro K hK;simp only [go_sem,s0];apply hK;refine b0i fun K1 hK1=>?_
 have J2:∀ (t:Slots) (h:Heap),d5d=some r->K1 t h:=by
  intro t h hm0;refine hK1 _ _ ?_;unfold d5d at hm0;apply b0b;intro K hK;simp only [go_sem];apply hK;simp only [b0x,b1p,b2e,b0y];obtain rfl:=sI9 hm0;exact b04 vb9 (b0e _)
 simp only [b0u];obtain ⟨b3,hl3,hm0⟩:=b0g hm0;refine b1j hl3 (fun|x_8,t,h=>t 0 = .fs 1 (List.map b0t s)/\t 1 = .fn f_n f_a f_b/\t 7=I (List.length s:Int)/\t 8=I x_8) ?_ ?_
 ·exact ⟨s0,s1,va9,va9⟩
 ·rintro x_8 o t h ⟨s0,s1,s7,s8⟩ hm1 hb3;simp only [g3d] at hm1;rw [g5e];apply b0b;intro K hK;simp only [go_sem,s7,s8];apply hK;refine b0i fun K4 hK4=>?_;simp only [go_sem];refine b0k (fun hc5=>?_) (fun hc5=>?_)
  ·rw [b0r hc5] at hm1;simp only [b0s,b02,b0f];refine hK4 _ _ ?_;refine b0i fun K6 hK6=>?_;simp only [b0u];apply b0b;intro K hK;simp only [go_sem,s8];apply hK;obtain ⟨x9,h_x9,hm1⟩:=b0g hm1;have h_x90:=b05 h_x9;have h_x91:=b06 h_x9;obtain ⟨y10,h_y10,hm1⟩:=b0g hm1;apply b0b;intro K hK;simp only [go_sem,s0,s1,b08 h_x9,b3n h_x9,h_x90,h_x91];refine o5t (f_h x9 _ h_y10) ?_;simp only [go_sem,s0,s1,b08 h_x9,b3n h_x9,h_x90,h_x91];apply hK;simp only [go_sem];refine b0k (fun hc11=>?_) (fun hc11=>?_)
   ·rw [b0r hc11] at hm1;apply b0b;intro K hK;simp only [go_sem];apply hK;simp only [b0x,b1p,b2e,b0y];obtain rfl:=sI9 hm1;obtain rfl:=hb3 _ rfl
    try dsimp only at hm0
    obtain rfl:=sI9 hm0;exact b04 vb9 (b0e _)
   ·rw [b0q hc11] at hm1;simp only [b0s,b02,b0f];refine hK6 _ _ ?_;apply b03;intro K hK;simp only [go_sem,s8];apply hK;simp only [b02,b0f];obtain rfl:=sI9 hm1;refine ⟨_,rfl,?_⟩;exact ⟨s0,s1,s7,(by first|(simp only [go_sem,s8,lA9,mA9]; done)|rfl)⟩
  ·rw [b0q hc5] at hm1;simp only [b09,b1b,b1a,c0s,b02,b0f,Nat.reduceEqDiff,nF9];obtain rfl:=sI9 hm1;obtain rfl:=hb3 _ rfl
   try dsimp only at hm0
   exact J2  _ _  hm0
theorem d3w (hf:Has O "slices.IndexFunc[newel/api.Term,newel/api.Literal]" x_slices_IndexFunc_api_Term_api_Literal_):d0z O:=by
 intro s f_n f_a f_b f f_z f_h r hm0;unfold d5e at hm0;refine b1i hf rfl (b0a (b0c fun a _=>c2w a) (b0a f_z b0j)) (b0e _) ?_;refine b1c (fun t h=>t 0 = .fs 4 (List.map b3k s)/\t 1 = .fn f_n f_a f_b) ⟨rfl,rfl⟩ fun t h ⟨s0,s1⟩=>?_;simp only [x_slices_IndexFunc_api_Term_api_Literal_];apply b0b;intro K hK;simp only [go_sem];apply hK;refine b0v ?_;apply b0b;intro K hK;simp only [go_sem,s0];apply hK;refine b0i fun K1 hK1=>?_
 have J2:∀ (t:Slots) (h:Heap),d5f=some r->K1 t h:=by
  intro t h hm0;refine hK1 _ _ ?_;unfold d5f at hm0;apply b0b;intro K hK;simp only [go_sem];apply hK;simp only [b0x,b1p,b2e,b0y];obtain rfl:=sI9 hm0;exact b04 vb9 (b0e _)
 simp only [b0u];obtain ⟨b3,hl3,hm0⟩:=b0g hm0;refine b1j hl3 (fun|x_8,t,h=>t 0 = .fs 4 (List.map b3k s)/\t 1 = .fn f_n f_a f_b/\t 7=I (List.length s:Int)/\t 8=I x_8) ?_ ?_
 ·exact ⟨s0,s1,va9,va9⟩
 ·rintro x_8 o t h ⟨s0,s1,s7,s8⟩ hm1 hb3;simp only [g3e] at hm1;rw [g5f];apply b0b;intro K hK;simp only [go_sem,s7,s8];apply hK;refine b0i fun K4 hK4=>?_;simp only [go_sem];refine b0k (fun hc5=>?_) (fun hc5=>?_)
  ·rw [b0r hc5] at hm1;simp only [b0s,b02,b0f];refine hK4 _ _ ?_;refine b0i fun K6 hK6=>?_;simp only [b0u];apply b0b;intro K hK;simp only [go_sem,s8];apply hK;obtain ⟨x9,h_x9,hm1⟩:=b0g hm1;have h_x90:=b05 h_x9;have h_x91:=b06 h_x9;obtain ⟨y10,h_y10,hm1⟩:=b0g hm1;apply b0b;intro K hK;simp only [go_sem,s0,s1,b08 h_x9,b3n h_x9,h_x90,h_x91];refine o5t (f_h x9 _ h_y10) ?_;simp only [go_sem,s0,s1,b08 h_x9,b3n h_x9,h_x90,h_x91];apply hK;simp only [go_sem];refine b0k (fun hc11=>?_) (fun hc11=>?_)
   ·rw [b0r hc11] at hm1;apply b0b;intro K hK;simp only [go_sem];apply hK;simp only [b0x,b1p,b2e,b0y];obtain rfl:=sI9 hm1;obtain rfl:=hb3 _ rfl
    try dsimp only at hm0
    obtain rfl:=sI9 hm0;exact b04 vb9 (b0e _)
   ·rw [b0q hc11] at hm1;simp only [b0s,b02,b0f];refine hK6 _ _ ?_;apply b03;intro K hK;simp only [go_sem,s8];apply hK;simp only [b02,b0f];obtain rfl:=sI9 hm1;refine ⟨_,rfl,?_⟩;exact ⟨s0,s1,s7,(by first|(simp only [go_sem,s8,lA9,mA9]; done)|rfl)⟩
  ·rw [b0q hc5] at hm1;simp only [b09,b1b,b1a,c0s,b02,b0f,Nat.reduceEqDiff,nF9];obtain rfl:=sI9 hm1;obtain rfl:=hb3 _ rfl
   try dsimp only at hm0
   exact J2  _ _  hm0
end Go.Nw.AM
