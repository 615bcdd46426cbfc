/- That the texts make what their models say: printed by a program. -/
import Derived.Test.YtgkhgpphjhefaaaDoorUM
set_option linter.all false
namespace Go.Nw.UM
open Go.Nw.Tp2
set_option maxHeartbeats 4000000
variable {O:Orac} [MapsOk O]
theorem d3h (hf:Has O "newel/situation.Check" x_situation_Check) (b4q:c5u O) (d3m:d0p O) (c3p:c5t O) (b8n:c1o O) (d3i:d0l O):d0k O:=by
 intro m r hm0;unfold c4v at hm0;refine b1i hf rfl (b0a (fM _) b0j) (b0e _) ?_;refine b1c (fun t h=>t 0 = .agg (vM m)) rfl fun t h s0=>?_;simp only [x_situation_Check];apply b0b;intro K hK;simp only [go_sem,s0];apply hK;refine b0v ?_;obtain ⟨c4,h_c4,hm0⟩:=b0g hm0;refine b2p (fun t h=>t 1 = .fp (vM m) 0/\t 46=B c4) (fun K hK=>?_) ?_
 ·simp only [go_sem];refine b0k (fun hg5=>?_) (fun hg5=>?_)
  ·simp only [hg5,Bool.not_true,Bool.not_false,eq_self,if_true,if_false,Bool.true_or,Bool.or_true,Bool.false_or,Bool.or_false,Bool.true_and,Bool.and_true,Bool.false_and,Bool.and_false,fT9] at h_c4;obtain rfl:=sI9 h_c4;simp only [go_sem,hg5];exact hK _ _ ⟨(by first|(simp only [go_sem,hg5,lA9,mA9]; done)|rfl),(by first|(simp only [go_sem,hg5,lA9,mA9]; done)|rfl)⟩
  ·simp only [go_sem,hg5];refine b0k (fun hg6=>?_) (fun hg6=>?_)
   ·simp only [hg5,hg6,Bool.not_true,Bool.not_false,eq_self,if_true,if_false,Bool.true_or,Bool.or_true,Bool.false_or,Bool.or_false,Bool.true_and,Bool.and_true,Bool.false_and,Bool.and_false,fT9] at h_c4;obtain rfl:=sI9 h_c4;simp only [go_sem,hg5,hg6];exact hK _ _ ⟨(by first|(simp only [go_sem,hg5,hg6,lA9,mA9]; done)|rfl),(by first|(simp only [go_sem,hg5,hg6,lA9,mA9]; done)|rfl)⟩
   ·simp only [go_sem,hg5,hg6];refine b0k (fun hg7=>?_) (fun hg7=>?_)
    ·simp only [hg5,hg6,hg7,Bool.not_true,Bool.not_false,eq_self,if_true,if_false,Bool.true_or,Bool.or_true,Bool.false_or,Bool.or_false,Bool.true_and,Bool.and_true,Bool.false_and,Bool.and_false,fT9] at h_c4;obtain rfl:=sI9 h_c4;simp only [go_sem,hg5,hg6,hg7];exact hK _ _ ⟨(by first|(simp only [go_sem,hg5,hg6,hg7,lA9,mA9]; done)|rfl),(by first|(simp only [go_sem,hg5,hg6,hg7,lA9,mA9]; done)|rfl)⟩
    ·simp only [go_sem,hg5,hg6,hg7];refine b01 (b4q (List.length m.States:Int) 1 12) ?_;simp only [go_sem,hg5,hg6,hg7];refine b0k (fun hg8=>?_) (fun hg8=>?_)
     ·simp only [hg5,hg6,hg7,hg8,Bool.not_true,Bool.not_false,eq_self,if_true,if_false,Bool.true_or,Bool.or_true,Bool.false_or,Bool.or_false,Bool.true_and,Bool.and_true,Bool.false_and,Bool.and_false,fT9] at h_c4;obtain rfl:=sI9 h_c4;simp only [go_sem,hg5,hg6,hg7,hg8];exact hK _ _ ⟨(by first|(simp only [go_sem,hg5,hg6,hg7,hg8,lA9,mA9]; done)|rfl),(by first|(simp only [go_sem,hg5,hg6,hg7,hg8,lA9,mA9]; done)|rfl)⟩
     ·simp only [go_sem,hg5,hg6,hg7,hg8];refine b0k (fun hg9=>?_) (fun hg9=>?_)
      ·simp only [hg5,hg6,hg7,hg8,hg9,Bool.not_true,Bool.not_false,eq_self,if_true,if_false,Bool.true_or,Bool.or_true,Bool.false_or,Bool.or_false,Bool.true_and,Bool.and_true,Bool.false_and,Bool.and_false,fT9] at h_c4;obtain rfl:=sI9 h_c4;simp only [go_sem,hg5,hg6,hg7,hg8,hg9];exact hK _ _ ⟨(by first|(simp only [go_sem,hg5,hg6,hg7,hg8,hg9,lA9,mA9]; done)|rfl),(by first|(simp only [go_sem,hg5,hg6,hg7,hg8,hg9,lA9,mA9]; done)|rfl)⟩
      ·simp only [hg5,hg6,hg7,hg8,hg9,Bool.not_true,Bool.not_false,eq_self,if_true,if_false,Bool.true_or,Bool.or_true,Bool.false_or,Bool.or_false,Bool.true_and,Bool.and_true,Bool.false_and,Bool.and_false,fT9] at h_c4;obtain ⟨y3,h_y3,h_c4⟩:=b0g h_c4;obtain rfl:=sI9 h_c4;simp only [go_sem,hg5,hg6,hg7,hg8,hg9];refine b01 (d3m m _ h_y3) ?_;simp only [go_sem,hg5,hg6,hg7,hg8,hg9];exact hK _ _ ⟨(by first|(simp only [go_sem,hg5,hg6,hg7,hg8,hg9,lA9,mA9]; done)|rfl),(by first|(simp only [go_sem,hg5,hg6,hg7,hg8,hg9,lA9,mA9]; done)|rfl)⟩
 ·rintro t h ⟨s1,s46⟩;refine b0i fun K10 hK10=>?_;simp only [go_sem,s46];refine b0k (fun hc11=>?_) (fun hc11=>?_)
  ·rw [b0r hc11] at hm0;apply b0b;intro K hK;simp only [go_sem];apply hK;simp only [b0x,b1p,b2e,b0y];obtain rfl:=sI9 hm0;exact b04 vb9 (b0e _)
  ·rw [b0q hc11] at hm0;simp only [b0s,b02,b0f];refine hK10 _ _ ?_;refine b0v ?_;apply b0b;intro K hK;simp only [go_sem,s1];apply hK;refine b0i fun K12 hK12=>?_
   have J13:∀ (t:Slots) (h:Heap),t 1 = .fp (vM m) 0->p84 m=some r->K12 t h:=by
    intro t h s1 hm0;refine hK12 _ _ ?_;unfold p84 at hm0;refine b0v ?_;apply b0b;intro K hK;simp only [go_sem,s1];apply hK;refine b0i fun K14 hK14=>?_
    have J15:∀ (t:Slots) (h:Heap),t 1 = .fp (vM m) 0->c85 m=some r->K14 t h:=by
     intro t h s1 hm0;refine hK14 _ _ ?_;unfold c85 at hm0;refine b0v ?_;apply b0b;intro K hK;simp only [go_sem,s1];apply hK;refine b0i fun K16 hK16=>?_
     have J17:∀ (t:Slots) (h:Heap),d47=some r->K16 t h:=by
      intro t h hm0;refine hK16 _ _ ?_;unfold d47 at hm0;apply b0b;intro K hK;simp only [go_sem];apply hK;simp only [b0x,b1p,b2e,b0y];obtain rfl:=sI9 hm0;exact b04 vb9 (b0e _)
     simp only [b0u];obtain ⟨b18,hl18,hm0⟩:=b0g hm0;refine b1j hl18 (fun|x_79,t,h=>t 1 = .fp (vM m) 0/\t 77 = .fs 4 (List.map b0m m.Rules)/\t 78=I (List.length m.Rules:Int)/\t 79=I x_79) ?_ ?_
     ·exact ⟨s1,va9,va9,va9⟩
     ·rintro x_79 o t h ⟨s1,s77,s78,s79⟩ hm1 hb18;simp only [b83] at hm1;rw [g49];apply b0b;intro K hK;simp only [go_sem,s78,s79];apply hK;refine b0i fun K19 hK19=>?_;simp only [go_sem];refine b0k (fun hc20=>?_) (fun hc20=>?_)
      ·rw [b0r hc20] at hm1;simp only [b0s,b02,b0f];refine hK19 _ _ ?_;refine b0i fun K21 hK21=>?_
       have J22:∀ (t:Slots) (h:Heap),t 1 = .fp (vM m) 0->t 77 = .fs 4 (List.map b0m m.Rules)->t 78=I (List.length m.Rules:Int)->t 79=I x_79->c86 x_79=some o->K21 t h:=by
        intro t h s1 s77 s78 s79 hm1;refine hK21 _ _ ?_;unfold c86 at hm1;apply b03;intro K hK;simp only [go_sem,s79];apply hK;simp only [b02,b0f];obtain rfl:=sI9 hm1;refine ⟨_,rfl,?_⟩;exact ⟨s1,s77,s78,(by first|(simp only [go_sem,s79,lA9,mA9]; done)|rfl)⟩
       simp only [b0u];obtain ⟨x24,h_x24,hm1⟩:=b0g hm1;have h_x240:=b05 h_x24;have h_x241:=b06 h_x24;apply b0b;intro K hK;simp only [go_sem,s77,s79,b08 h_x24,b3n h_x24,h_x240,h_x241];apply hK;refine b0v ?_;obtain ⟨c28,h_c28,hm1⟩:=b0g hm1;refine b2p (fun t h=>∃ i8:Nat,t 1 = .fp (vM m) 0/\t 8 = .rp i8 0 0/\t 77 = .fs 4 (List.map b0m m.Rules)/\t 78=I (List.length m.Rules:Int)/\t 79=I x_79/\t 113=B (c28 || (decide (4<(List.length x24.Sets:Int))))/\h.ob i8=some (4,[[I x24.From,I x24.To,.fs 1 (List.map b0t x24.When),.fs 2 (List.map b2o x24.Sets)]])/\i8<h.nx) (fun K hK=>?_) ?_
       ·simp only [go_sem,s1];refine b01 (b4q x24.From (-1) (wr ((List.length m.States:Int) - 1))) ?_;simp only [go_sem,s1];refine b0k (fun hg29=>?_) (fun hg29=>?_)
        ·simp only [hg29,Bool.not_true,Bool.not_false,eq_self,if_true,if_false,Bool.true_or,Bool.or_true,Bool.false_or,Bool.or_false,Bool.true_and,Bool.and_true,Bool.false_and,Bool.and_false,fT9] at h_c28;obtain rfl:=sI9 h_c28;simp only [go_sem,s1,hg29];exact hK _ _ ⟨h.nx,s1,(by first|(simp only [go_sem,hg29,lA9,mA9]; done)|rfl),s77,s78,s79,(by first|(simp only [go_sem,hg29,lA9,mA9]; done)|rfl),(by simp only [go_sem,hg29,lA9,mA9]),ve9⟩
        ·simp only [go_sem,s1,hg29];refine b01 (b4q x24.To 0 (wr ((List.length m.States:Int) - 1))) ?_;simp only [go_sem,s1,hg29];refine b0k (fun hg30=>?_) (fun hg30=>?_)
         ·simp only [hg29,hg30,Bool.not_true,Bool.not_false,eq_self,if_true,if_false,Bool.true_or,Bool.or_true,Bool.false_or,Bool.or_false,Bool.true_and,Bool.and_true,Bool.false_and,Bool.and_false,fT9] at h_c28;obtain rfl:=sI9 h_c28;simp only [go_sem,s1,hg29,hg30];exact hK _ _ ⟨h.nx,s1,(by first|(simp only [go_sem,hg29,hg30,lA9,mA9]; done)|rfl),s77,s78,s79,(by first|(simp only [go_sem,hg29,hg30,lA9,mA9]; done)|rfl),(by simp only [go_sem,hg29,hg30,lA9,mA9]),ve9⟩
         ·simp only [hg29,hg30,Bool.not_true,Bool.not_false,eq_self,if_true,if_false,Bool.true_or,Bool.or_true,Bool.false_or,Bool.or_false,Bool.true_and,Bool.and_true,Bool.false_and,Bool.and_false,fT9] at h_c28;obtain ⟨y27,h_y27,h_c28⟩:=b0g h_c28;obtain rfl:=sI9 h_c28;simp only [go_sem,s1,hg29,hg30];refine b01 (c3p m x24.When _ h_y27) ?_;simp only [go_sem,s1,hg29,hg30];refine b0k (fun hg31=>?_) (fun hg31=>?_)
          ·simp only [go_sem,s1,hg29,hg30,hg31];exact hK _ _ ⟨h.nx,s1,(by first|(simp only [go_sem,hg29,hg30,hg31,lA9,mA9]; done)|rfl),s77,s78,s79,(by first|(simp only [go_sem,hg29,hg30,hg31,lA9,mA9]; done)|rfl),(by simp only [go_sem,hg29,hg30,hg31,lA9,mA9]),ve9⟩
          ·simp only [go_sem,s1,hg29,hg30,hg31];exact hK _ _ ⟨h.nx,s1,(by first|(simp only [go_sem,hg29,hg30,hg31,lA9,mA9]; done)|rfl),s77,s78,s79,(by first|(simp only [go_sem,hg29,hg30,hg31,lA9,mA9]; done)|rfl),(by simp only [go_sem,hg29,hg30,hg31,lA9,mA9]),ve9⟩
       ·rintro t h ⟨i8,s1,s8,s77,s78,s79,s113,Q4,Q3⟩;refine b0i fun K32 hK32=>?_;simp only [go_sem,s113];refine b0k (fun hc33=>?_) (fun hc33=>?_)
        ·rw [b0r hc33] at hm1;apply b0b;intro K hK;simp only [go_sem,Q3];apply hK;simp only [b0x,b1p,b2e,b0y];obtain rfl:=sI9 hm1;obtain rfl:=hb18 _ rfl
         try dsimp only at hm0
         obtain rfl:=sI9 hm0;exact b04 (by simp only [go_sem,Q4,Q3,lA9,mA9]) (b0e _)
        ·rw [b0q hc33] at hm1;simp only [b0s,b02,b0f];refine hK32 _ _ ?_;refine b0v ?_;apply b0b;intro K hK;simp only [go_sem,s8,Q4,Q3];apply hK;refine b0i fun K34 hK34=>?_
         have J35:∀ (t:Slots) (h:Heap),t 1 = .fp (vM m) 0->t 8 = .rp i8 0 0->t 77 = .fs 4 (List.map b0m m.Rules)->t 78=I (List.length m.Rules:Int)->t 79=I x_79->h.ob i8=some (4,[[I x24.From,I x24.To,.fs 1 (List.map b0t x24.When),.fs 2 (List.map b2o x24.Sets)]])->i8<h.nx->c87 m x_79 x24=some o->K34 t h:=by
          intro t h s1 s8 s77 s78 s79 Q4 Q3 hm1;refine hK34 _ _ ?_;unfold c87 at hm1;apply b0b;intro K hK;simp only [go_sem,s8,Q4,Q3];apply hK;simp only [b0u];obtain ⟨b36,hl36,hm1⟩:=b0g hm1;refine b1j hl36 (fun|x_127,t,h=>t 1 = .fp (vM m) 0/\t 77 = .fs 4 (List.map b0m m.Rules)/\t 78=I (List.length m.Rules:Int)/\t 79=I x_79/\t 125 = .fs 2 (List.map b2o x24.Sets)/\t 126=I (List.length x24.Sets:Int)/\t 127=I x_127) ?_ ?_
          ·exact ⟨s1,s77,s78,s79,va9,va9,va9⟩
          ·rintro x_127 o t h ⟨s1,s77,s78,s79,s125,s126,s127⟩ hm2 hb36;simp only [c4y] at hm2;rw [g48];apply b0b;intro K hK;simp only [go_sem,s126,s127];apply hK;refine b0i fun K37 hK37=>?_;simp only [go_sem];refine b0k (fun hc38=>?_) (fun hc38=>?_)
           ·rw [b0r hc38] at hm2;simp only [b0s,b02,b0f];refine hK37 _ _ ?_;refine b0i fun K39 hK39=>?_;simp only [b0u];obtain ⟨x41,h_x41,hm2⟩:=b0g hm2;have h_x410:=b05 h_x41;have h_x411:=b06 h_x41;apply b0b;intro K hK;simp only [go_sem,s125,s127,b08 h_x41,b3n h_x41,h_x410,h_x411];apply hK;refine b2p (fun t h=>t 1 = .fp (vM m) 0/\t 77 = .fs 4 (List.map b0m m.Rules)/\t 78=I (List.length m.Rules:Int)/\t 79=I x_79/\t 125 = .fs 2 (List.map b2o x24.Sets)/\t 126=I (List.length x24.Sets:Int)/\t 127=I x_127/\t 144=B ((!(b2q x41.Kind 1 3)) || (!(b2q x41.Counter 0 (wr ((List.length m.Counters:Int) - 1)))))) (fun K hK=>?_) ?_
            ·simp only [go_sem,s1];refine b01 (b4q x41.Kind 1 3) ?_;simp only [go_sem,s1];refine b0k (fun hg42=>?_) (fun hg42=>?_)
             ·simp only [go_sem,s1,hg42];exact hK _ _ ⟨s1,s77,s78,s79,s125,s126,s127,(by first|(simp only [go_sem,hg42,lA9,mA9]; done)|rfl)⟩
             ·simp only [go_sem,s1,hg42];refine b01 (b4q x41.Counter 0 (wr ((List.length m.Counters:Int) - 1))) ?_;simp only [go_sem,s1,hg42];exact hK _ _ ⟨s1,s77,s78,s79,s125,s126,s127,(by first|(simp only [go_sem,hg42,lA9,mA9]; done)|rfl)⟩
            ·rintro t h ⟨s1,s77,s78,s79,s125,s126,s127,s144⟩;simp only [go_sem,s144];refine b0k (fun hc43=>?_) (fun hc43=>?_)
             ·rw [b0r hc43] at hm2;apply b0b;intro K hK;simp only [go_sem];apply hK;simp only [b0x,b1p,b2e,b0y];obtain rfl:=sI9 hm2;obtain rfl:=hb36 _ rfl
              try dsimp only at hm1
              obtain rfl:=sI9 hm1;obtain rfl:=hb18 _ rfl
              try dsimp only at hm0
              obtain rfl:=sI9 hm0;exact b04 vb9 (b0e _)
             ·rw [b0q hc43] at hm2;simp only [b0s,b02,b0f];refine hK39 _ _ ?_;apply b03;intro K hK;simp only [go_sem,s127];apply hK;simp only [b02,b0f];obtain rfl:=sI9 hm2;refine ⟨_,rfl,?_⟩;exact ⟨s1,s77,s78,s79,s125,s126,(by first|(simp only [go_sem,s127,lA9,mA9]; done)|rfl)⟩
           ·rw [b0q hc38] at hm2;simp only [b09,b1b,b1a,c0s,b02,b0f,Nat.reduceEqDiff,nF9];obtain rfl:=sI9 hm2;obtain rfl:=hb36 _ rfl
            try dsimp only at hm1
            exact J22  _ _ s1 s77 s78 s79 hm1
         simp only [b0u];obtain ⟨b45,hl45,hm1⟩:=b0g hm1;refine b1j hl45 (fun|x_117,t,h=>t 1 = .fp (vM m) 0/\t 8 = .rp i8 0 0/\t 77 = .fs 4 (List.map b0m m.Rules)/\t 78=I (List.length m.Rules:Int)/\t 79=I x_79/\t 115 = .fs 1 (List.map b0t x24.When)/\t 116=I (List.length x24.When:Int)/\t 117=I x_117/\h.ob i8=some (4,[[I x24.From,I x24.To,.fs 1 (List.map b0t x24.When),.fs 2 (List.map b2o x24.Sets)]])/\i8<h.nx) ?_ ?_
         ·exact ⟨s1,s8,s77,s78,s79,va9,va9,va9,Q4,Q3⟩
         ·rintro x_117 o t h ⟨s1,s8,s77,s78,s79,s115,s116,s117,Q4,Q3⟩ hm2 hb45;simp only [c4x] at hm2;rw [g47];apply b0b;intro K hK;simp only [go_sem,s116,s117,Q3];apply hK;refine b0i fun K46 hK46=>?_;simp only [go_sem];refine b0k (fun hc47=>?_) (fun hc47=>?_)
          ·rw [b0r hc47] at hm2;simp only [b0s,b02,b0f];refine hK46 _ _ ?_;refine b0i fun K48 hK48=>?_;simp only [b0u];obtain ⟨x50,h_x50,hm2⟩:=b0g hm2;have h_x500:=b05 h_x50;have h_x501:=b06 h_x50;apply b0b;intro K hK;simp only [go_sem,s115,s117,Q3,b08 h_x50,b3n h_x50,h_x500,h_x501];apply hK;obtain ⟨y54,h_y54,hm2⟩:=b0g hm2;apply b0b;intro K hK;simp only [go_sem,Q3];refine b01 (b8n x50 "newel/situation.Check$1" [] [] (fun z53=>some (b7s z53)) (.fn _ _ _ b0j b0j) (fun z0 y hz=>by cases hz; exact d3i z0) _ h_y54) ?_;simp only [go_sem,Q3];apply hK;simp only [go_sem];refine b0k (fun hc55=>?_) (fun hc55=>?_)
           ·rw [b0r hc55] at hm2;apply b0b;intro K hK;simp only [go_sem,Q3];apply hK;simp only [b0x,b1p,b2e,b0y];obtain rfl:=sI9 hm2;obtain rfl:=hb45 _ rfl
            try dsimp only at hm1
            obtain rfl:=sI9 hm1;obtain rfl:=hb18 _ rfl
            try dsimp only at hm0
            obtain rfl:=sI9 hm0;exact b04 (by simp only [go_sem,Q4,Q3,lA9,mA9]) (b0e _)
           ·rw [b0q hc55] at hm2;simp only [b0s,b02,b0f];refine hK48 _ _ ?_;apply b03;intro K hK;simp only [go_sem,s117,Q3];apply hK;simp only [b02,b0f];obtain rfl:=sI9 hm2;refine ⟨_,rfl,?_⟩;exact ⟨s1,s8,s77,s78,s79,s115,s116,(by first|(simp only [go_sem,s117,lA9,mA9]; done)|rfl),Q4,Q3⟩
          ·rw [b0q hc47] at hm2;simp only [b09,b1b,b1a,c0s,b02,b0f,Nat.reduceEqDiff,nF9];obtain rfl:=sI9 hm2;obtain rfl:=hb45 _ rfl
           try dsimp only at hm1
           exact J35  _ _ s1 s8 s77 s78 s79 Q4 Q3 hm1
      ·rw [b0q hc20] at hm1;simp only [b09,b1b,b1a,c0s,b02,b0f,Nat.reduceEqDiff,nF9];obtain rfl:=sI9 hm1;obtain rfl:=hb18 _ rfl
       try dsimp only at hm0
       exact J17  _ _  hm0
    simp only [b0u];obtain ⟨b58,hl58,hm0⟩:=b0g hm0;refine b1j hl58 (fun|x_62,t,h=>t 1 = .fp (vM m) 0/\t 60 = .fs 2 (List.map b0p m.States)/\t 61=I (List.length m.States:Int)/\t 62=I x_62) ?_ ?_
    ·exact ⟨s1,va9,va9,va9⟩
    ·rintro x_62 o t h ⟨s1,s60,s61,s62⟩ hm1 hb58;simp only [c4w] at hm1;rw [g46];apply b0b;intro K hK;simp only [go_sem,s61,s62];apply hK;refine b0i fun K59 hK59=>?_;simp only [go_sem];refine b0k (fun hc60=>?_) (fun hc60=>?_)
     ·rw [b0r hc60] at hm1;simp only [b0s,b02,b0f];refine hK59 _ _ ?_;refine b0i fun K61 hK61=>?_;simp only [b0u];obtain ⟨x63,h_x63,hm1⟩:=b0g hm1;have h_x630:=b05 h_x63;have h_x631:=b06 h_x63;apply b0b;intro K hK;simp only [go_sem,s60,s62,b08 h_x63,b3n h_x63,h_x630,h_x631];apply hK;obtain ⟨q65,h_q65,hm1⟩:=b0g hm1;apply b0b;intro K hK;simp only [go_sem,s1,B8s h_q65];refine b01 (b4q x63.Shows 0 (wr (q65 - 1))) ?_;simp only [go_sem,s1,B8s h_q65];apply hK;simp only [go_sem];refine b0k (fun hc66=>?_) (fun hc66=>?_)
      ·rw [b0r hc66] at hm1;apply b0b;intro K hK;simp only [go_sem];apply hK;simp only [b0x,b1p,b2e,b0y];obtain rfl:=sI9 hm1;obtain rfl:=hb58 _ rfl
       try dsimp only at hm0
       obtain rfl:=sI9 hm0;exact b04 vb9 (b0e _)
      ·rw [b0q hc66] at hm1;simp only [b0s,b02,b0f];refine hK61 _ _ ?_;apply b03;intro K hK;simp only [go_sem,s62];apply hK;simp only [b02,b0f];obtain rfl:=sI9 hm1;refine ⟨_,rfl,?_⟩;exact ⟨s1,s60,s61,(by first|(simp only [go_sem,s62,lA9,mA9]; done)|rfl)⟩
     ·rw [b0q hc60] at hm1;simp only [b09,b1b,b1a,c0s,b02,b0f,Nat.reduceEqDiff,nF9];obtain rfl:=sI9 hm1;obtain rfl:=hb58 _ rfl
      try dsimp only at hm0
      exact J15  _ _ s1 hm0
   simp only [b0u];obtain ⟨b68,hl68,hm0⟩:=b0g hm0;refine b1j hl68 (fun|x_50,t,h=>t 1 = .fp (vM m) 0/\t 48 = .fs 2 (List.map b0o m.Counters)/\t 49=I (List.length m.Counters:Int)/\t 50=I x_50) ?_ ?_
   ·exact ⟨s1,va9,va9,va9⟩
   ·rintro x_50 o t h ⟨s1,s48,s49,s50⟩ hm1 hb68;simp only [c4z] at hm1;rw [g5a];apply b0b;intro K hK;simp only [go_sem,s49,s50];apply hK;refine b0i fun K69 hK69=>?_;simp only [go_sem];refine b0k (fun hc70=>?_) (fun hc70=>?_)
    ·rw [b0r hc70] at hm1;simp only [b0s,b02,b0f];refine hK69 _ _ ?_;refine b0i fun K71 hK71=>?_;simp only [b0u];obtain ⟨x73,h_x73,hm1⟩:=b0g hm1;have h_x730:=b05 h_x73;have h_x731:=b06 h_x73;apply b0b;intro K hK;simp only [go_sem,s48,s50,b08 h_x73,b3n h_x73,h_x730,h_x731];apply hK;apply b0b;intro K hK;simp only [go_sem];refine b01 (b4q x73.Max 1 7) ?_;simp only [go_sem];apply hK;simp only [go_sem];refine b0k (fun hc74=>?_) (fun hc74=>?_)
     ·rw [b0r hc74] at hm1;apply b0b;intro K hK;simp only [go_sem];apply hK;simp only [b0x,b1p,b2e,b0y];obtain rfl:=sI9 hm1;obtain rfl:=hb68 _ rfl
      try dsimp only at hm0
      obtain rfl:=sI9 hm0;exact b04 vb9 (b0e _)
     ·rw [b0q hc74] at hm1;simp only [b0s,b02,b0f];refine hK71 _ _ ?_;apply b03;intro K hK;simp only [go_sem,s50];apply hK;simp only [b02,b0f];obtain rfl:=sI9 hm1;refine ⟨_,rfl,?_⟩;exact ⟨s1,s48,s49,(by first|(simp only [go_sem,s50,lA9,mA9]; done)|rfl)⟩
    ·rw [b0q hc70] at hm1;simp only [b09,b1b,b1a,c0s,b02,b0f,Nat.reduceEqDiff,nF9];obtain rfl:=sI9 hm1;obtain rfl:=hb68 _ rfl
     try dsimp only at hm0
     exact J13  _ _ s1 hm0
theorem d3j (hf:Has O "newel/situation.Plain" x_situation_Plain):d0m O:=by
 intro word r hm0;unfold r1j at hm0;refine b1i hf rfl (b0a (b0e _) b0j) (b0e _) ?_;refine b1c (fun t h=>t 0 = .v (.string word)) rfl fun t h s0=>?_;simp only [x_situation_Plain];apply b0b;intro K hK;simp only [go_sem];apply hK;refine b0v ?_;apply b0b;intro K hK;simp only [go_sem,s0];refine j5y (O:=O) ?_;simp only [go_sem,s0];apply hK;refine b0i fun K1 hK1=>?_
 have J2:∀ (t:Slots) (h:Heap),t 0 = .v (.string word)->d48 word=some r->K1 t h:=by
  intro t h s0 hm0;refine hK1 _ _ ?_;unfold d48 at hm0;apply b0b;intro K hK;simp only [go_sem,s0];apply hK;simp only [b0x,b1p,b2e,b0y];obtain rfl:=sI9 hm0;exact b04 vb9 (b0e _)
 simp only [b0u];obtain ⟨b3,hl3,hm0⟩:=b0g hm0;refine b1j hl3 (fun|x_8,t,h=>t 0 = .v (.string word)/\t 6 = .fs 1 (List.map c2m (b3q word))/\t 7=I (List.length (b3q word):Int)/\t 8=I x_8) ?_ ?_
 ·exact ⟨s0,va9,va9,va9⟩
 ·rintro x_8 o t h ⟨s0,s6,s7,s8⟩ hm1 hb3;simp only [c42] at hm1;rw [g5b];apply b0b;intro K hK;simp only [go_sem,s7,s8];apply hK;refine b0i fun K4 hK4=>?_;simp only [go_sem];refine b0k (fun hc5=>?_) (fun hc5=>?_)
  ·rw [b0r hc5] at hm1;simp only [b0s,b02,b0f];refine hK4 _ _ ?_;refine b0i fun K6 hK6=>?_;simp only [b0u];obtain ⟨x8,h_x8,hm1⟩:=b0g hm1;have h_x80:=b05 h_x8;have h_x81:=b06 h_x8;apply b0b;intro K hK;simp only [go_sem,s6,s8,b08 h_x8,b3n h_x8,h_x80,h_x81];apply hK;refine b2p (fun t h=>t 0 = .v (.string word)/\t 6 = .fs 1 (List.map c2m (b3q word))/\t 7=I (List.length (b3q word):Int)/\t 8=I x_8/\t 17=B ((decide (x8<97)) || (decide (122<x8)))) (fun K hK=>?_) ?_
   ·simp only [go_sem];refine b0k (fun hg9=>?_) (fun hg9=>?_)
    ·simp only [go_sem,hg9];exact hK _ _ ⟨s0,s6,s7,s8,(by first|(simp only [go_sem,hg9,lA9,mA9]; done)|rfl)⟩
    ·simp only [go_sem,hg9];exact hK _ _ ⟨s0,s6,s7,s8,(by first|(simp only [go_sem,hg9,lA9,mA9]; done)|rfl)⟩
   ·rintro t h ⟨s0,s6,s7,s8,s17⟩;simp only [go_sem,s17];refine b0k (fun hc10=>?_) (fun hc10=>?_)
    ·rw [b0r hc10] at hm1;apply b0b;intro K hK;simp only [go_sem];apply hK;simp only [b0x,b1p,b2e,b0y];obtain rfl:=sI9 hm1;obtain rfl:=hb3 _ rfl
     try dsimp only at hm0
     obtain rfl:=sI9 hm0;exact b04 vb9 (b0e _)
    ·rw [b0q hc10] at hm1;simp only [b0s,b02,b0f];refine hK6 _ _ ?_;apply b03;intro K hK;simp only [go_sem,s8];apply hK;simp only [b02,b0f];obtain rfl:=sI9 hm1;refine ⟨_,rfl,?_⟩;exact ⟨s0,s6,s7,(by first|(simp only [go_sem,s8,lA9,mA9]; done)|rfl)⟩
  ·rw [b0q hc5] at hm1;simp only [b09,b1b,b1a,c0s,b02,b0f,Nat.reduceEqDiff,nF9];obtain rfl:=sI9 hm1;obtain rfl:=hb3 _ rfl
   try dsimp only at hm0
   exact J2  _ _ s0 hm0
theorem d3k (hf:Has O "newel/situation.Reserved" x_situation_Reserved):d0n O:=by
 intro word;generalize hm0:b84 word=r;unfold b84 at hm0;refine b1i hf rfl (b0a (b0e _) b0j) (b0e _) ?_;refine b1c (fun t h=>t 0 = .v (.string word)) rfl fun t h s0=>?_;simp only [x_situation_Reserved];apply b0b;intro K hK;simp only [go_sem];apply hK;refine b0v ?_;apply b0b;intro K hK;simp only [go_sem,s0];apply hK;refine b0i fun K1 hK1=>?_;simp only [b0u];refine b0v ?_;apply b0b;intro K hK;simp only [go_sem];apply hK;refine b0i fun K2 hK2=>?_
 have J3:∀ (x_4:Bool) (t:Slots) (h:Heap),t 4=B x_4->b5w x_4=r->K2 t h:=by
  intro x_4 t h s4 hm0;refine hK2 _ _ ?_;unfold b5w at hm0;simp only [go_sem,s4];refine b0k (fun hc4=>?_) (fun hc4=>?_)
  ·rw [b0r hc4] at hm0;apply b0b;intro K hK;simp only [go_sem];apply hK;simp only [b0x,b1p,b2e,b0y];obtain rfl:=hm0;exact b04 vb9 (b0e _)
  ·rw [b0q hc4] at hm0;simp only [b0s,b02,b0f];refine hK1 _ _ ?_;apply b0b;intro K hK;simp only [go_sem];apply hK;simp only [b0x,b1p,b2e,b0y];obtain rfl:=hm0;exact b04 vb9 (b0e _)
 simp only [go_sem];refine b0k (fun hc5=>?_) (fun hc5=>?_)
 ·rw [b0r hc5] at hm0;simp only [b0s,b02,b0f];exact J3 (decide (word=(ByteArray.mk #[97,110,121]))) _ _ va9 hm0
 ·rw [b0q hc5] at hm0;apply b0b;intro K hK;simp only [go_sem];apply hK;simp only [go_sem];refine b0k (fun hc6=>?_) (fun hc6=>?_)
  ·rw [b0r hc6] at hm0;simp only [b0s,b02,b0f];exact J3 (decide (word=(ByteArray.mk #[116,111]))) _ _ va9 hm0
  ·rw [b0q hc6] at hm0;apply b0b;intro K hK;simp only [go_sem];apply hK;simp only [go_sem];refine b0k (fun hc7=>?_) (fun hc7=>?_)
   ·rw [b0r hc7] at hm0;simp only [b0s,b02,b0f];exact J3 (decide (word=(ByteArray.mk #[122,101,114,111]))) _ _ va9 hm0
   ·rw [b0q hc7] at hm0;apply b0b;intro K hK;simp only [go_sem];apply hK;simp only [go_sem];refine b0k (fun hc8=>?_) (fun hc8=>?_)
    ·rw [b0r hc8] at hm0;simp only [b0s,b02,b0f];exact J3 (decide (word=(ByteArray.mk #[109,111,114,101]))) _ _ va9 hm0
    ·rw [b0q hc8] at hm0;apply b0b;intro K hK;simp only [go_sem];apply hK;simp only [go_sem];refine b0k (fun hc9=>?_) (fun hc9=>?_)
     ·rw [b0r hc9] at hm0;simp only [b0s,b02,b0f];exact J3 (decide (word=(ByteArray.mk #[108,101,115,115]))) _ _ va9 hm0
     ·rw [b0q hc9] at hm0;apply b0b;intro K hK;simp only [go_sem];apply hK;simp only [go_sem];refine b0k (fun hc10=>?_) (fun hc10=>?_)
      ·rw [b0r hc10] at hm0;simp only [b0s,b02,b0f];exact J3 (decide (word=(ByteArray.mk #[105,102]))) _ _ va9 hm0
      ·rw [b0q hc10] at hm0;apply b0b;intro K hK;simp only [go_sem];apply hK;simp only [go_sem];refine b0k (fun hc11=>?_) (fun hc11=>?_)
       ·rw [b0r hc11] at hm0;simp only [b0s,b02,b0f];exact J3 (decide (word=(ByteArray.mk #[121,101,115]))) _ _ va9 hm0
       ·rw [b0q hc11] at hm0;apply b03;intro K hK;simp only [go_sem];apply hK;simp only [b02,b0f];exact J3 (decide (word=(ByteArray.mk #[110,111]))) _ _ va9 hm0
theorem d3l (hf:Has O "newel/situation.asks" x_situation_asks) (b4q:c5u O):d0o O:=by
 intro m x r hm0;unfold c43 at hm0;refine b1i hf rfl (b0a (fM _) (b0a (.agg _ (b0a (b0e _) (b0a (b0e _) (b0a (b0e _) (b0a (b0e _) b0j))))) b0j)) (b0e _) ?_;refine b1c (fun t h=>t 0 = .agg (vM m)/\t 1 = .agg [I x.Kind,I x.Number,I x.Value,B x.Not]) ⟨rfl,rfl⟩ fun t h ⟨s0,s1⟩=>?_;simp only [x_situation_asks];apply b0b;intro K hK;simp only [go_sem,s0,s1];apply hK;refine b0v ?_;apply b0b;intro K hK;simp only [go_sem];apply hK;refine b0i fun K1 hK1=>?_;simp only [b0u];apply b0b;intro K hK;simp only [go_sem];apply hK;simp only [go_sem];refine b0k (fun hc2=>?_) (fun hc2=>?_)
 ·rw [b0r hc2] at hm0;refine b2p (fun t h=>t 4=B ((b2q x.Number 0 (wr ((List.length m.Inputs:Int) - 1))) && (decide (x.Value=0)))) (fun K hK=>?_) ?_
  ·simp only [go_sem];refine b01 (b4q x.Number 0 (wr ((List.length m.Inputs:Int) - 1))) ?_;simp only [go_sem];refine b0k (fun hg3=>?_) (fun hg3=>?_)
   ·simp only [go_sem,hg3];exact hK _ _ (by first|(simp only [go_sem,hg3,lA9,mA9]; done)|rfl)
   ·simp only [go_sem,hg3];exact hK _ _ (by first|(simp only [go_sem,hg3,lA9,mA9]; done)|rfl)
  ·rintro t h s4;simp only [b0x,b1p,b2e,b0y];obtain rfl:=sI9 hm0;exact b04 (by simp only [go_sem,s4,lA9,mA9]) (b0e _)
 ·rw [b0q hc2] at hm0;apply b0b;intro K hK;simp only [go_sem];apply hK;simp only [go_sem];refine b0k (fun hc4=>?_) (fun hc4=>?_)
  ·rw [b0r hc4] at hm0;obtain ⟨c8,h_c8,hm0⟩:=b0g hm0;refine b2p (fun t h=>t 4=B c8) (fun K hK=>?_) ?_
   ·simp only [go_sem];refine b01 (b4q x.Number 0 (wr ((List.length m.Counters:Int) - 1))) ?_;simp only [go_sem];refine b0k (fun hg9=>?_) (fun hg9=>?_)
    ·simp only [hg9,Bool.not_true,Bool.not_false,eq_self,if_true,if_false,Bool.true_or,Bool.or_true,Bool.false_or,Bool.or_false,Bool.true_and,Bool.and_true,Bool.false_and,Bool.and_false,fT9] at h_c8;obtain ⟨x7,h_x7,h_c8⟩:=b0g h_c8;have h_x70:=b05 h_x7;have h_x71:=b06 h_x7;obtain rfl:=sI9 h_c8;simp only [go_sem,b08 h_x7,b3n h_x7,h_x70,h_x71,hg9];refine b01 (b4q x.Value 0 x7.Max) ?_;simp only [go_sem,b08 h_x7,b3n h_x7,h_x70,h_x71,hg9];exact hK _ _ (by first|(simp only [go_sem,hg9,lA9,mA9]; done)|rfl)
    ·simp only [hg9,Bool.not_true,Bool.not_false,eq_self,if_true,if_false,Bool.true_or,Bool.or_true,Bool.false_or,Bool.or_false,Bool.true_and,Bool.and_true,Bool.false_and,Bool.and_false,fT9] at h_c8;obtain rfl:=sI9 h_c8;simp only [go_sem,hg9];exact hK _ _ (by first|(simp only [go_sem,hg9,lA9,mA9]; done)|rfl)
   ·rintro t h s4;simp only [b0x,b1p,b2e,b0y];obtain rfl:=sI9 hm0;exact b04 (by simp only [go_sem,s4,lA9,mA9]) (b0e _)
  ·rw [b0q hc4] at hm0;apply b0b;intro K hK;simp only [go_sem];apply hK;simp only [go_sem];refine b0k (fun hc10=>?_) (fun hc10=>?_)
   ·rw [b0r hc10] at hm0;refine b2p (fun t h=>t 4=B ((b2q x.Number 0 (wr ((List.length m.States:Int) - 1))) && (decide (x.Value=0)))) (fun K hK=>?_) ?_
    ·simp only [go_sem];refine b01 (b4q x.Number 0 (wr ((List.length m.States:Int) - 1))) ?_;simp only [go_sem];refine b0k (fun hg11=>?_) (fun hg11=>?_)
     ·simp only [go_sem,hg11];exact hK _ _ (by first|(simp only [go_sem,hg11,lA9,mA9]; done)|rfl)
     ·simp only [go_sem,hg11];exact hK _ _ (by first|(simp only [go_sem,hg11,lA9,mA9]; done)|rfl)
    ·rintro t h s4;simp only [b0x,b1p,b2e,b0y];obtain rfl:=sI9 hm0;exact b04 (by simp only [go_sem,s4,lA9,mA9]) (b0e _)
   ·rw [b0q hc10] at hm0;apply b0b;intro K hK;simp only [go_sem];apply hK;simp only [go_sem];refine b0k (fun hc12=>?_) (fun hc12=>?_)
    ·rw [b0r hc12] at hm0;refine b2p (fun t h=>t 4=B ((b2q x.Number 0 (wr ((List.length m.Outputs:Int) - 1))) && (decide (x.Value=0)))) (fun K hK=>?_) ?_
     ·simp only [go_sem];refine b01 (b4q x.Number 0 (wr ((List.length m.Outputs:Int) - 1))) ?_;simp only [go_sem];refine b0k (fun hg13=>?_) (fun hg13=>?_)
      ·simp only [go_sem,hg13];exact hK _ _ (by first|(simp only [go_sem,hg13,lA9,mA9]; done)|rfl)
      ·simp only [go_sem,hg13];exact hK _ _ (by first|(simp only [go_sem,hg13,lA9,mA9]; done)|rfl)
     ·rintro t h s4;simp only [b0x,b1p,b2e,b0y];obtain rfl:=sI9 hm0;exact b04 (by simp only [go_sem,s4,lA9,mA9]) (b0e _)
    ·rw [b0q hc12] at hm0;simp only [b0s,b02,b0f];refine hK1 _ _ ?_;apply b0b;intro K hK;simp only [go_sem];apply hK;simp only [b0x,b1p,b2e,b0y];obtain rfl:=sI9 hm0;exact b04 vb9 (b0e _)
theorem d3m (hf:Has O "newel/situation.named" x_situation_named) (d3n:d0q O) (d3j:d0m O) (d3k:d0n O):d0p O:=by
 intro m r hm0;unfold c44 at hm0;refine b1i hf rfl (b0a (fM _) b0j) (b0e _) ?_;refine b1c (fun t h=>t 0 = .agg (vM m)) rfl fun t h s0=>?_;simp only [x_situation_named];apply b0b;intro K hK;simp only [go_sem,s0];apply hK;apply b0b;intro K hK;simp only [go_sem];refine g0d (O:=O) (e:=List.map (eM vS vI) ([]:List (ByteArray × Int))) rfl ?_;simp only [go_sem];apply hK;refine b0v ?_;obtain ⟨y2,h_y2,hm0⟩:=b0g hm0;apply b0b;intro K hK;simp only [go_sem];refine b01 (d3n m _ h_y2) ?_;simp only [go_sem];apply hK;refine b0i fun K3 hK3=>?_
 have J4:∀ (t:Slots) (h:Heap),d49=some r->K3 t h:=by
  intro t h hm0;refine hK3 _ _ ?_;unfold d49 at hm0;apply b0b;intro K hK;simp only [go_sem];apply hK;simp only [b0x,b1p,b2e,b0y];obtain rfl:=sI9 hm0;exact b04 vb9 (b0e _)
 simp only [b0u];obtain ⟨b5,hl5,hm0⟩:=b0g hm0;refine b1j hl5 (fun|(seen_3,x_10),t,h=>∃ i3:Nat,t 3 = .mp i3/\t 8 = .fs 1 (List.map eS y2)/\t 9=I (List.length y2:Int)/\t 10=I x_10/\h.ob i3=some (0,List.map (eM vS vI) seen_3)/\i3<h.nx) ?_ ?_
 ·exact ⟨h.nx,va9,va9,va9,va9,vb9,ve9⟩
 ·rintro ⟨seen_3,x_10⟩ o t h ⟨i3,s3,s8,s9,s10,Q1,Q0⟩ hm1 hb5;simp only [c1i] at hm1;rw [g5c];apply b0b;intro K hK;simp only [go_sem,s9,s10,Q0];apply hK;refine b0i fun K6 hK6=>?_;simp only [go_sem];refine b0k (fun hc7=>?_) (fun hc7=>?_)
  ·rw [b0r hc7] at hm1;simp only [b0s,b02,b0f];refine hK6 _ _ ?_;refine b0i fun K8 hK8=>?_;simp only [b0u];obtain ⟨x10,h_x10,hm1⟩:=b0g hm1;have h_x100:=b05 h_x10;have h_x101:=b06 h_x10;apply b0b;intro K hK;simp only [go_sem,s8,s10,Q0,b08 h_x10,b3n h_x10,h_x100,h_x101];apply hK;apply b0b;intro K hK;simp only [go_sem,s3,Q1,Q0];refine g0c (O:=O) (fk:=vS) (fv:=vI) (l:=seen_3) (x:=x10) (z:=0) g1s d3z ?_ ?_ ?_
   ·rfl
   ·simp only [go_sem,Q1,Q0,lA9,mA9]
   simp only [go_sem,s3,Q1,Q0];refine d2i (O:=O) (fk:=vS) (fv:=vI) (l:=seen_3) (x:=x10) (v:=(wr ((b2w seen_3 x10 0)+1))) j8d d3z ?_ ?_ ?_
   ·rfl
   ·simp only [go_sem,Q1,Q0,lA9,mA9]
   simp only [go_sem,s3,Q1,Q0];apply hK;obtain ⟨y12,h_y12,hm1⟩:=b0g hm1;refine b2p (fun t h=>t 3 = .mp i3/\t 8 = .fs 1 (List.map eS y2)/\t 9=I (List.length y2:Int)/\t 10=I x_10/\t 35=B ((((!y12) || (decide (8<(ByteArray.size x10:Int)))) || (b84 x10)) || (decide (1<(b2w (b3w seen_3 x10 (wr ((b2w seen_3 x10 0)+1))) x10 0))))/\h.ob i3=some (0,List.map (eM vS vI) (b3w seen_3 x10 (wr ((b2w seen_3 x10 0)+1))))/\i3<h.nx) (fun K hK=>?_) ?_
   ·simp only [go_sem,s3,Q1,Q0];refine b01 (d3j x10 _ h_y12) ?_;simp only [go_sem,s3,Q1,Q0];refine b0k (fun hg13=>?_) (fun hg13=>?_)
    ·simp only [go_sem,s3,Q1,Q0,hg13];exact hK _ _ ⟨s3,s8,s9,s10,(by first|(simp only [go_sem,hg13,lA9,mA9]; done)|rfl),(by simp only [go_sem,Q1,Q0,hg13,lA9,mA9]),(by simp only [go_sem,Q0])⟩
    ·simp only [go_sem,s3,Q1,Q0,hg13];refine b0k (fun hg14=>?_) (fun hg14=>?_)
     ·simp only [go_sem,s3,Q1,Q0,hg13,hg14];exact hK _ _ ⟨s3,s8,s9,s10,(by first|(simp only [go_sem,hg13,hg14,lA9,mA9]; done)|rfl),(by simp only [go_sem,Q1,Q0,hg13,hg14,lA9,mA9]),(by simp only [go_sem,Q0])⟩
     ·simp only [go_sem,s3,Q1,Q0,hg13,hg14];refine b01 (d3k x10) ?_;simp only [go_sem,s3,Q1,Q0,hg13,hg14];refine b0k (fun hg15=>?_) (fun hg15=>?_)
      ·simp only [go_sem,s3,Q1,Q0,hg13,hg14,hg15];exact hK _ _ ⟨s3,s8,s9,s10,(by first|(simp only [go_sem,hg13,hg14,hg15,lA9,mA9]; done)|rfl),(by simp only [go_sem,Q1,Q0,hg13,hg14,hg15,lA9,mA9]),(by simp only [go_sem,Q0])⟩
      ·simp only [go_sem,s3,Q1,Q0,hg13,hg14,hg15];refine g0c (O:=O) (fk:=vS) (fv:=vI) (l:=(b3w seen_3 x10 (wr ((b2w seen_3 x10 0)+1)))) (x:=x10) (z:=0) g1s d3z ?_ ?_ ?_
       ·rfl
       ·simp only [go_sem,hg13,hg14,hg15,Q1,Q0,lA9,mA9]
       simp only [go_sem,s3,Q1,Q0,hg13,hg14,hg15];exact hK _ _ ⟨s3,s8,s9,s10,(by first|(simp only [go_sem,hg13,hg14,hg15,lA9,mA9]; done)|rfl),(by simp only [go_sem,Q1,Q0,hg13,hg14,hg15,lA9,mA9]),(by simp only [go_sem,Q0])⟩
   ·rintro t h ⟨s3,s8,s9,s10,s35,Q1,Q0⟩;simp only [go_sem,s35];refine b0k (fun hc16=>?_) (fun hc16=>?_)
    ·rw [b0r hc16] at hm1;apply b0b;intro K hK;simp only [go_sem,Q0];apply hK;simp only [b0x,b1p,b2e,b0y];obtain rfl:=sI9 hm1;obtain rfl:=hb5 _ rfl
     try dsimp only at hm0
     obtain rfl:=sI9 hm0;exact b04 (by simp only [go_sem,Q1,Q0,lA9,mA9]) (b0e _)
    ·rw [b0q hc16] at hm1;simp only [b0s,b02,b0f];refine hK8 _ _ ?_;apply b03;intro K hK;simp only [go_sem,s10,Q0];apply hK;simp only [b02,b0f];obtain rfl:=sI9 hm1;refine ⟨_,rfl,?_⟩;exact ⟨i3,s3,s8,s9,(by first|(simp only [go_sem,s10,lA9,mA9]; done)|rfl),Q1,Q0⟩
  ·rw [b0q hc7] at hm1;simp only [b09,b1b,b1a,c0s,b02,b0f,Nat.reduceEqDiff,nF9];obtain rfl:=sI9 hm1;obtain rfl:=hb5 _ rfl
   try dsimp only at hm0
   exact J4  _ _  hm0
theorem d3o (hf:Has O "newel/situation.names" x_situation_names) (d3q:d0t O):d0r O:=by
 intro m r hm0;unfold c88 at hm0;refine b1i hf rfl (b0a (fM _) b0j) (b0c fun a _=>b0z a) ?_;refine b1c (fun t h=>t 0 = .agg (vM m)) rfl fun t h s0=>?_;simp only [x_situation_names];apply b0b;intro K hK;simp only [go_sem,s0];apply hK;obtain ⟨y2,h_y2,hm0⟩:=b0g hm0;apply b0b;intro K hK;simp only [go_sem];refine j4w (e:=eS) (l:=y2) ?_ (d3q ([m.Inputs,m.Outputs]) _ h_y2) ?_
 ·exact .cons (b29 (f:=b4f) (l:=([m.Inputs,m.Outputs])) (id:=h.nx) vb9 vg9 c65 g1e) (.nil)
 simp only [go_sem];apply hK;refine b0v ?_;apply b0b;intro K hK;simp only [go_sem];apply hK;refine b0i fun K3 hK3=>?_
 have J4:∀ (l_3:List ByteArray) (i3:Nat) (t:Slots) (h:Heap),t 1 = .fp (vM m) 0->t 3 = .rs i3 0 (List.length l_3)->h.ob i3=some (1,List.map eS l_3)->i3<h.nx->c9b m l_3=some r->K3 t h:=by
  intro l_3 i3 t h s1 s3 Q1 Q0 hm0;refine hK3 _ _ ?_;unfold c9b at hm0;refine b0v ?_;apply b0b;intro K hK;simp only [go_sem,s1,Q0];apply hK;refine b0i fun K5 hK5=>?_
  have J6:∀ (l_3_1:List ByteArray) (i3_1:Nat) (t:Slots) (h:Heap),t 3 = .rs i3_1 0 (List.length l_3_1)->h.ob i3_1=some (1,List.map eS l_3_1)->i3_1<h.nx->c9c l_3_1=some r->K5 t h:=by
   intro l_3_1 i3_1 t h s3 Q1 Q0 hm0;refine hK5 _ _ ?_;unfold c9c at hm0;apply b0b;intro K hK;simp only [go_sem,s3,Q1,Q0];apply hK;simp only [b0x,b1p,b2e,b0y];obtain rfl:=sI9 hm0;exact b8e (v:=.rs i3_1 0 (List.length l_3_1)) (by simp only [go_sem,Q1,Q0,lA9,mA9]) (b29 (f:=eS) (l:=l_3_1) (id:=i3_1) (by simp only [go_sem,Q1,Q0,lA9,mA9]) vg9 b0z c3u)
  simp only [b0u];obtain ⟨b7,hl7,hm0⟩:=b0g hm0;refine b1j hl7 (fun|(l_3_1,x_30),t,h=>∃ i3_1:Nat,t 3 = .rs i3_1 0 (List.length l_3_1)/\t 28 = .fs 2 (List.map b0p m.States)/\t 29=I (List.length m.States:Int)/\t 30=I x_30/\h.ob i3_1=some (1,List.map eS l_3_1)/\i3_1<h.nx) ?_ ?_
  ·exact ⟨i3,(by first|exact s3|simp only [go_sem,s3,lA9,mA9]),va9,va9,va9,Q1,Q0⟩
  ·rintro ⟨l_3_1,x_30⟩ o t h ⟨i3_1,s3,s28,s29,s30,Q1,Q0⟩ hm1 hb7;simp only [c89] at hm1;rw [d5k];apply b0b;intro K hK;simp only [go_sem,s29,s30,Q0];apply hK;refine b0i fun K8 hK8=>?_;simp only [go_sem];refine b0k (fun hc9=>?_) (fun hc9=>?_)
   ·rw [b0r hc9] at hm1;simp only [b0s,b02,b0f];refine hK8 _ _ ?_;refine b0i fun K10 hK10=>?_;simp only [b0u];obtain ⟨x12,h_x12,hm1⟩:=b0g hm1;have h_x120:=b05 h_x12;have h_x121:=b06 h_x12;apply b0b;intro K hK;simp only [go_sem,s28,s30,Q0,b08 h_x12,b3n h_x12,h_x120,h_x121];apply hK;obtain ⟨l14,h_l14,hm1⟩:=b0g hm1;apply b03;intro K hK;simp only [go_sem,s3,Q1,Q0];refine b3a (f:=eS) (l:=l_3_1) (m:=([x12.Name])) ?_ ?_ ?_ ?_ h_l14 ?_
    ·exact (b2v (by simp only [go_sem,Q1,Q0,lA9,mA9]) (by simp only [go_sem,Q1,Q0,lA9,mA9]) (by simp only [go_sem,Q0]))
    ·exact (b4t (by simp only [go_sem,Q1,Q0,lA9,mA9]) (by simp only [go_sem,Q1,Q0,lA9,mA9]))
    ·exact (b4r vf9)
    ·exact (fun _=>by simp)
    simp only [go_sem,s3,Q1,Q0];apply hK;simp only [b02,b0f];refine hK10 _ _ ?_;apply b03;intro K hK;simp only [go_sem,s30,Q0];apply hK;simp only [b02,b0f];obtain rfl:=sI9 hm1;refine ⟨_,rfl,?_⟩;exact ⟨(nxs (nxs h.nx)),(by first|(simp only [go_sem,s3,lA9,mA9]; done)|rfl),s28,s29,(by first|(simp only [go_sem,s30,lA9,mA9]; done)|rfl),(by simp only [go_sem,Q0,lA9,mA9]),ve9⟩
   ·rw [b0q hc9] at hm1;simp only [b09,b1b,b1a,c0s,b02,b0f,Nat.reduceEqDiff,nF9];obtain rfl:=sI9 hm1;obtain rfl:=hb7 _ rfl
    try dsimp only at hm0
    exact J6 l_3_1 i3_1 _ _ (by first|exact s3|simp only [go_sem,s3,lA9,mA9]) Q1 Q0 hm0
 simp only [b0u];obtain ⟨b16,hl16,hm0⟩:=b0g hm0;refine b1j hl16 (fun|(l_3,x_17),t,h=>∃ i3:Nat,t 1 = .fp (vM m) 0/\t 3 = .rs i3 0 (List.length l_3)/\t 15 = .fs 2 (List.map b0o m.Counters)/\t 16=I (List.length m.Counters:Int)/\t 17=I x_17/\h.ob i3=some (1,List.map eS l_3)/\i3<h.nx) ?_ ?_
 ·exact ⟨(nxs h.nx),va9,va9,va9,va9,va9,vb9,ve9⟩
 ·rintro ⟨l_3,x_17⟩ o t h ⟨i3,s1,s3,s15,s16,s17,Q1,Q0⟩ hm1 hb16;simp only [c9a] at hm1;rw [d5l];apply b0b;intro K hK;simp only [go_sem,s16,s17,Q0];apply hK;refine b0i fun K17 hK17=>?_;simp only [go_sem];refine b0k (fun hc18=>?_) (fun hc18=>?_)
  ·rw [b0r hc18] at hm1;simp only [b0s,b02,b0f];refine hK17 _ _ ?_;refine b0i fun K19 hK19=>?_;simp only [b0u];obtain ⟨x21,h_x21,hm1⟩:=b0g hm1;have h_x210:=b05 h_x21;have h_x211:=b06 h_x21;apply b0b;intro K hK;simp only [go_sem,s15,s17,Q0,b08 h_x21,b3n h_x21,h_x210,h_x211];apply hK;obtain ⟨l23,h_l23,hm1⟩:=b0g hm1;apply b03;intro K hK;simp only [go_sem,s3,Q1,Q0];refine b3a (f:=eS) (l:=l_3) (m:=([x21.Name])) ?_ ?_ ?_ ?_ h_l23 ?_
   ·exact (b2v (by simp only [go_sem,Q1,Q0,lA9,mA9]) (by simp only [go_sem,Q1,Q0,lA9,mA9]) (by simp only [go_sem,Q0]))
   ·exact (b4t (by simp only [go_sem,Q1,Q0,lA9,mA9]) (by simp only [go_sem,Q1,Q0,lA9,mA9]))
   ·exact (b4r vf9)
   ·exact (fun _=>by simp)
   simp only [go_sem,s3,Q1,Q0];apply hK;simp only [b02,b0f];refine hK19 _ _ ?_;apply b03;intro K hK;simp only [go_sem,s17,Q0];apply hK;simp only [b02,b0f];obtain rfl:=sI9 hm1;refine ⟨_,rfl,?_⟩;exact ⟨(nxs (nxs h.nx)),s1,(by first|(simp only [go_sem,s3,lA9,mA9]; done)|rfl),s15,s16,(by first|(simp only [go_sem,s17,lA9,mA9]; done)|rfl),(by simp only [go_sem,Q0,lA9,mA9]),ve9⟩
  ·rw [b0q hc18] at hm1;simp only [b09,b1b,b1a,c0s,b02,b0f,Nat.reduceEqDiff,nF9];obtain rfl:=sI9 hm1;obtain rfl:=hb16 _ rfl
   try dsimp only at hm0
   exact J4 l_3 i3 _ _ s1 (by first|exact s3|simp only [go_sem,s3,lA9,mA9]) Q1 Q0 hm0
theorem d3p (hf:Has O "newel/situation.names" x_situation_names) (d3r:d0u O):d0s O:=by
 intro m r hm0;unfold c9d at hm0;refine b1i hf rfl (b0a (fM _) b0j) (b0c fun a _=>b0z a) ?_;refine b1c (fun t h=>t 0 = .agg (vM m)) rfl fun t h s0=>?_;simp only [x_situation_names];apply b0b;intro K hK;simp only [go_sem,s0];apply hK;obtain ⟨y2,h_y2,hm0⟩:=b0g hm0;apply b0b;intro K hK;simp only [go_sem];refine b8l ?_ (d3r ([m.Inputs,m.Outputs]) _ h_y2) (.v _) ?_
 ·exact .cons (b29 (f:=b4f) (l:=([m.Inputs,m.Outputs])) (id:=h.nx) vb9 vg9 c65 g1e) (.nil)
 simp only [go_sem];apply hK;refine b0v ?_;apply b0b;intro K hK;simp only [go_sem];apply hK;refine b0i fun K3 hK3=>?_
 have J4:∀ (l_3:List ByteArray) (v3:AV) (t:Slots) (h:Heap),t 1 = .fp (vM m) 0->t 3=v3->b2a h v3 1 (List.map eS l_3)->c9g m l_3=some r->K3 t h:=by
  intro l_3 v3 t h s1 s3 Q2 hm0;refine hK3 _ _ ?_;unfold c9g at hm0;refine b0v ?_;apply b0b;intro K hK;simp only [go_sem,s1,b5r v3];apply hK;refine b0i fun K5 hK5=>?_
  have J6:∀ (l_3_1:List ByteArray) (v3_1:AV) (t:Slots) (h:Heap),t 3=v3_1->b2a h v3_1 1 (List.map eS l_3_1)->c9h l_3_1=some r->K5 t h:=by
   intro l_3_1 v3_1 t h s3 Q2 hm0;refine hK5 _ _ ?_;unfold c9h at hm0;apply b0b;intro K hK;simp only [go_sem,s3,l3r Q2,b5r v3,b5r v3_1];apply hK;simp only [b0x,b1p,b2e,b0y];obtain rfl:=sI9 hm0;exact b8e (v:=v3_1) (by simp only [go_sem,b8s Q2,lA9,mA9]) (r8x (f:=eS) (l:=l_3_1) (b3x Q2 (by intro j hj hl; first|rfl|simp only [go_sem,hl]) (by first|omega|exact Nat.le_refl _|(simp only [go_sem,nxs] <;> omega))) b0z c3u)
  simp only [b0u];obtain ⟨b7,hl7,hm0⟩:=b0g hm0;refine b1j hl7 (fun|(l_3_1,x_30),t,h=>∃ v3_1:AV,t 3=v3_1/\t 28 = .fs 2 (List.map b0p m.States)/\t 29=I (List.length m.States:Int)/\t 30=I x_30/\b2a h v3_1 1 (List.map eS l_3_1)) ?_ ?_
  ·exact ⟨v3,s3,va9,va9,va9,Q2⟩
  ·rintro ⟨l_3_1,x_30⟩ o t h ⟨v3_1,s3,s28,s29,s30,Q2⟩ hm1 hb7;simp only [c9e] at hm1;rw [d5k];apply b0b;intro K hK;simp only [go_sem,s29,s30,b5r v3,b5r v3_1];apply hK;refine b0i fun K8 hK8=>?_;simp only [go_sem];refine b0k (fun hc9=>?_) (fun hc9=>?_)
   ·rw [b0r hc9] at hm1;simp only [b0s,b02,b0f];refine hK8 _ _ ?_;refine b0i fun K10 hK10=>?_;simp only [b0u];obtain ⟨x12,h_x12,hm1⟩:=b0g hm1;have h_x120:=b05 h_x12;have h_x121:=b06 h_x12;apply b0b;intro K hK;simp only [go_sem,s28,s30,b08 h_x12,b3n h_x12,h_x120,h_x121,b5r v3,b5r v3_1];apply hK;obtain ⟨l14,h_l14,hm1⟩:=b0g hm1;apply b03;intro K hK;simp only [go_sem,s3,l3r Q2,b5r v3,b5r v3_1];refine b3a (f:=eS) (l:=l_3_1) (m:=([x12.Name])) ?_ ?_ ?_ ?_ h_l14 ?_
    ·exact (b3x Q2 (by intro j hj hl; first|rfl|simp only [go_sem,hl]) (by first|omega|exact Nat.le_refl _|(simp only [go_sem,nxs] <;> omega)))
    ·exact (b4t (by simp only [go_sem,b8s Q2,lA9,mA9]) (by simp only [go_sem,b8s Q2,lA9,mA9]))
    ·exact (b4r vf9)
    ·exact (fun _=>by simp)
    simp only [go_sem,s3,l3r Q2,b5r v3,b5r v3_1];apply hK;simp only [b02,b0f];refine hK10 _ _ ?_;apply b03;intro K hK;simp only [go_sem,s30,b5r v3,b5r v3_1];apply hK;simp only [b02,b0f];obtain rfl:=sI9 hm1;refine ⟨_,rfl,?_⟩;exact ⟨(.rs (nxs (nxs h.nx)) 0 (List.length l14)),(by first|(simp only [go_sem,s3,lA9,mA9]; done)|rfl),s28,s29,(by first|(simp only [go_sem,s30,lA9,mA9]; done)|rfl),(b2v (by simp only [go_sem,b8s Q2,lA9,mA9]) vg9 ve9)⟩
   ·rw [b0q hc9] at hm1;simp only [b09,b1b,b1a,c0s,b02,b0f,Nat.reduceEqDiff,nF9];obtain rfl:=sI9 hm1;obtain rfl:=hb7 _ rfl
    try dsimp only at hm0
    exact J6 l_3_1 v3_1 _ _ s3 Q2 hm0
 simp only [b0u];obtain ⟨b16,hl16,hm0⟩:=b0g hm0;refine b1j hl16 (fun|(l_3,x_17),t,h=>∃ v3:AV,t 1 = .fp (vM m) 0/\t 3=v3/\t 15 = .fs 2 (List.map b0o m.Counters)/\t 16=I (List.length m.Counters:Int)/\t 17=I x_17/\b2a h v3 1 (List.map eS l_3)) ?_ ?_
 ·exact ⟨(.v (.slice none 0 0)),va9,va9,va9,va9,va9,c0o⟩
 ·rintro ⟨l_3,x_17⟩ o t h ⟨v3,s1,s3,s15,s16,s17,Q2⟩ hm1 hb16;simp only [c9f] at hm1;rw [d5l];apply b0b;intro K hK;simp only [go_sem,s16,s17,b5r v3];apply hK;refine b0i fun K17 hK17=>?_;simp only [go_sem];refine b0k (fun hc18=>?_) (fun hc18=>?_)
  ·rw [b0r hc18] at hm1;simp only [b0s,b02,b0f];refine hK17 _ _ ?_;refine b0i fun K19 hK19=>?_;simp only [b0u];obtain ⟨x21,h_x21,hm1⟩:=b0g hm1;have h_x210:=b05 h_x21;have h_x211:=b06 h_x21;apply b0b;intro K hK;simp only [go_sem,s15,s17,b08 h_x21,b3n h_x21,h_x210,h_x211,b5r v3];apply hK;obtain ⟨l23,h_l23,hm1⟩:=b0g hm1;apply b03;intro K hK;simp only [go_sem,s3,l3r Q2,b5r v3];refine b3a (f:=eS) (l:=l_3) (m:=([x21.Name])) ?_ ?_ ?_ ?_ h_l23 ?_
   ·exact (b3x Q2 (by intro j hj hl; first|rfl|simp only [go_sem,hl]) (by first|omega|exact Nat.le_refl _|(simp only [go_sem,nxs] <;> omega)))
   ·exact (b4t (by simp only [go_sem,b8s Q2,lA9,mA9]) (by simp only [go_sem,b8s Q2,lA9,mA9]))
   ·exact (b4r vf9)
   ·exact (fun _=>by simp)
   simp only [go_sem,s3,l3r Q2,b5r v3];apply hK;simp only [b02,b0f];refine hK19 _ _ ?_;apply b03;intro K hK;simp only [go_sem,s17,b5r v3];apply hK;simp only [b02,b0f];obtain rfl:=sI9 hm1;refine ⟨_,rfl,?_⟩;exact ⟨(.rs (nxs (nxs h.nx)) 0 (List.length l23)),s1,(by first|(simp only [go_sem,s3,lA9,mA9]; done)|rfl),s15,s16,(by first|(simp only [go_sem,s17,lA9,mA9]; done)|rfl),(b2v (by simp only [go_sem,b8s Q2,lA9,mA9]) vg9 ve9)⟩
  ·rw [b0q hc18] at hm1;simp only [b09,b1b,b1a,c0s,b02,b0f,Nat.reduceEqDiff,nF9];obtain rfl:=sI9 hm1;obtain rfl:=hb16 _ rfl
   try dsimp only at hm0
   exact J4 l_3 v3 _ _ s1 s3 Q2 hm0
theorem d3t (hf:Has O "slices.ContainsFunc[newel/api.Cond,newel/api.Term]" x_slices_ContainsFunc_api_Cond_api_Term_) (d3v:d0y O):d0w O:=by
 intro s f_n f_a f_b f f_z f_h r hm0;unfold c9k at hm0;refine b1i hf rfl (b0a (b0c fun a _=>b2j a) (b0a f_z b0j)) (b0e _) ?_;refine b1c (fun t h=>t 0 = .fs 1 (List.map b0t s)/\t 1 = .fn f_n f_a f_b) ⟨rfl,rfl⟩ fun t h ⟨s0,s1⟩=>?_;simp only [x_slices_ContainsFunc_api_Cond_api_Term_];apply b0b;intro K hK;simp only [go_sem];apply hK;obtain ⟨y2,h_y2,hm0⟩:=b0g hm0;apply b0b;intro K hK;simp only [go_sem,s0,s1];refine b01 (d3v s f_n f_a f_b f f_z f_h _ h_y2) ?_;simp only [go_sem,s0,s1];apply hK;simp only [b0x,b1p,b2e,b0y];obtain rfl:=sI9 hm0;exact b04 vb9 (b0e _)
theorem b8n (hf:Has O "slices.ContainsFunc[newel/api.Term,newel/api.Literal]" x_slices_ContainsFunc_api_Term_api_Literal_) (d3w:d0z O):c1o O:=by
 intro s f_n f_a f_b f f_z f_h r hm0;unfold b7t at hm0;refine b1i hf rfl (b0a (b0c fun a _=>c2w a) (b0a f_z b0j)) (b0e _) ?_;refine b1c (fun t h=>t 0 = .fs 4 (List.map b3k s)/\t 1 = .fn f_n f_a f_b) ⟨rfl,rfl⟩ fun t h ⟨s0,s1⟩=>?_;simp only [x_slices_ContainsFunc_api_Term_api_Literal_];apply b0b;intro K hK;simp only [go_sem];apply hK;obtain ⟨y2,h_y2,hm0⟩:=b0g hm0;apply b0b;intro K hK;simp only [go_sem,s0,s1];refine b01 (d3w s f_n f_a f_b f f_z f_h _ h_y2) ?_;simp only [go_sem,s0,s1];apply hK;simp only [b0x,b1p,b2e,b0y];obtain rfl:=sI9 hm0;exact b04 vb9 (b0e _)
theorem r1r (hf:Has O "slices.Equal[[]string,string]" x_slices_Equal___string_string_):r13 O:=by
 intro s1_ s2_ r hm0;unfold r1a at hm0;refine b1i hf rfl (b0a (b0c fun a _=>b0z a) (b0a (b0c fun a _=>b0z a) b0j)) (b0e _) ?_;refine b1c (fun t h=>t 0 = .fs 1 (List.map eS s1_)/\t 1 = .fs 1 (List.map eS s2_)) ⟨rfl,rfl⟩ fun t h ⟨s0,s1⟩=>?_;simp only [x_slices_Equal___string_string_];apply b0b;intro K hK;simp only [go_sem];apply hK;refine b0v ?_;apply b0b;intro K hK;simp only [go_sem,s0,s1];apply hK;refine b0i fun K1 hK1=>?_;simp only [go_sem];refine b0k (fun hc2=>?_) (fun hc2=>?_)
 ·rw [b0r hc2] at hm0;apply b0b;intro K hK;simp only [go_sem];apply hK;simp only [b0x,b1p,b2e,b0y];obtain rfl:=sI9 hm0;exact b04 vb9 (b0e _)
 ·rw [b0q hc2] at hm0;simp only [b0s,b02,b0f];refine hK1 _ _ ?_;refine b0v ?_;apply b0b;intro K hK;simp only [go_sem,s0];apply hK;refine b0i fun K3 hK3=>?_
  have J4:∀ (t:Slots) (h:Heap),r1x=some r->K3 t h:=by
   intro t h hm0;refine hK3 _ _ ?_;unfold r1x at hm0;apply b0b;intro K hK;simp only [go_sem];apply hK;simp only [b0x,b1p,b2e,b0y];obtain rfl:=sI9 hm0;exact b04 vb9 (b0e _)
  simp only [b0u];obtain ⟨b5,hl5,hm0⟩:=b0g hm0;refine b1j hl5 (fun|x_13,t,h=>t 0 = .fs 1 (List.map eS s1_)/\t 1 = .fs 1 (List.map eS s2_)/\t 12=I (List.length s1_:Int)/\t 13=I x_13) ?_ ?_
  ·exact ⟨s0,s1,va9,va9⟩
  ·rintro x_13 o t h ⟨s0,s1,s12,s13⟩ hm1 hb5;simp only [r1k] at hm1;rw [r3g];apply b0b;intro K hK;simp only [go_sem,s12,s13];apply hK;refine b0i fun K6 hK6=>?_;simp only [go_sem];refine b0k (fun hc7=>?_) (fun hc7=>?_)
   ·rw [b0r hc7] at hm1;simp only [b0s,b02,b0f];refine hK6 _ _ ?_;refine b0i fun K8 hK8=>?_;simp only [b0u];apply b0b;intro K hK;simp only [go_sem,s13];apply hK;obtain ⟨x11,h_x11,hm1⟩:=b0g hm1;have h_x110:=b05 h_x11;have h_x111:=b06 h_x11;obtain ⟨x12,h_x12,hm1⟩:=b0g hm1;have h_x120:=b05 h_x12;have h_x121:=b06 h_x12;apply b0b;intro K hK;simp only [go_sem,s0,s1,b08 h_x11,b3n h_x11,h_x110,h_x111,b08 h_x12,b3n h_x12,h_x120,h_x121];apply hK;simp only [go_sem];refine b0k (fun hc13=>?_) (fun hc13=>?_)
    ·rw [b0r hc13] at hm1;apply b0b;intro K hK;simp only [go_sem];apply hK;simp only [b0x,b1p,b2e,b0y];obtain rfl:=sI9 hm1;obtain rfl:=hb5 _ rfl
     try dsimp only at hm0
     obtain rfl:=sI9 hm0;exact b04 vb9 (b0e _)
    ·rw [b0q hc13] at hm1;simp only [b0s,b02,b0f];refine hK8 _ _ ?_;apply b03;intro K hK;simp only [go_sem,s13];apply hK;simp only [b02,b0f];obtain rfl:=sI9 hm1;refine ⟨_,rfl,?_⟩;exact ⟨s0,s1,s12,(by first|(simp only [go_sem,s13,lA9,mA9]; done)|rfl)⟩
   ·rw [b0q hc7] at hm1;simp only [b09,b1b,b1a,c0s,b02,b0f,Nat.reduceEqDiff,nF9];obtain rfl:=sI9 hm1;obtain rfl:=hb5 _ rfl
    try dsimp only at hm0
    exact J4  _ _  hm0
theorem d3v (hf:Has O "slices.IndexFunc[newel/api.Cond,newel/api.Term]" x_slices_IndexFunc_api_Cond_api_Term_):d0y O:=by
 intro s f_n f_a f_b f f_z f_h r hm0;unfold d5c at hm0;refine b1i hf rfl (b0a (b0c fun a _=>b2j a) (b0a f_z b0j)) (b0e _) ?_;refine b1c (fun t h=>t 0 = .fs 1 (List.map b0t s)/\t 1 = .fn f_n f_a f_b) ⟨rfl,rfl⟩ fun t h ⟨s0,s1⟩=>?_;simp only [x_slices_IndexFunc_api_Cond_api_Term_];apply b0b;intro K hK;simp only [go_sem];apply hK;refine b0v ?_;apply b0b;intro K hK;simp only [go_sem,s0];apply hK;refine b0i fun K1 hK1=>?_
 have J2:∀ (t:Slots) (h:Heap),d5d=some r->K1 t h:=by
  intro t h hm0;refine hK1 _ _ ?_;unfold d5d at hm0;apply b0b;intro K hK;simp only [go_sem];apply hK;simp only [b0x,b1p,b2e,b0y];obtain rfl:=sI9 hm0;exact b04 vb9 (b0e _)
 simp only [b0u];obtain ⟨b3,hl3,hm0⟩:=b0g hm0;refine b1j hl3 (fun|x_8,t,h=>t 0 = .fs 1 (List.map b0t s)/\t 1 = .fn f_n f_a f_b/\t 7=I (List.length s:Int)/\t 8=I x_8) ?_ ?_
 ·exact ⟨s0,s1,va9,va9⟩
 ·rintro x_8 o t h ⟨s0,s1,s7,s8⟩ hm1 hb3;simp only [g3d] at hm1;rw [g5e];apply b0b;intro K hK;simp only [go_sem,s7,s8];apply hK;refine b0i fun K4 hK4=>?_;simp only [go_sem];refine b0k (fun hc5=>?_) (fun hc5=>?_)
  ·rw [b0r hc5] at hm1;simp only [b0s,b02,b0f];refine hK4 _ _ ?_;refine b0i fun K6 hK6=>?_;simp only [b0u];apply b0b;intro K hK;simp only [go_sem,s8];apply hK;obtain ⟨x9,h_x9,hm1⟩:=b0g hm1;have h_x90:=b05 h_x9;have h_x91:=b06 h_x9;obtain ⟨y10,h_y10,hm1⟩:=b0g hm1;apply b0b;intro K hK;simp only [go_sem,s0,s1,b08 h_x9,b3n h_x9,h_x90,h_x91];refine o5t (f_h x9 _ h_y10) ?_;simp only [go_sem,s0,s1,b08 h_x9,b3n h_x9,h_x90,h_x91];apply hK;simp only [go_sem];refine b0k (fun hc11=>?_) (fun hc11=>?_)
   ·rw [b0r hc11] at hm1;apply b0b;intro K hK;simp only [go_sem];apply hK;simp only [b0x,b1p,b2e,b0y];obtain rfl:=sI9 hm1;obtain rfl:=hb3 _ rfl
    try dsimp only at hm0
    obtain rfl:=sI9 hm0;exact b04 vb9 (b0e _)
   ·rw [b0q hc11] at hm1;simp only [b0s,b02,b0f];refine hK6 _ _ ?_;apply b03;intro K hK;simp only [go_sem,s8];apply hK;simp only [b02,b0f];obtain rfl:=sI9 hm1;refine ⟨_,rfl,?_⟩;exact ⟨s0,s1,s7,(by first|(simp only [go_sem,s8,lA9,mA9]; done)|rfl)⟩
  ·rw [b0q hc5] at hm1;simp only [b09,b1b,b1a,c0s,b02,b0f,Nat.reduceEqDiff,nF9];obtain rfl:=sI9 hm1;obtain rfl:=hb3 _ rfl
   try dsimp only at hm0
   exact J2  _ _  hm0
theorem d3w (hf:Has O "slices.IndexFunc[newel/api.Term,newel/api.Literal]" x_slices_IndexFunc_api_Term_api_Literal_):d0z O:=by
 intro s f_n f_a f_b f f_z f_h r hm0;unfold d5e at hm0;refine b1i hf rfl (b0a (b0c fun a _=>c2w a) (b0a f_z b0j)) (b0e _) ?_;refine b1c (fun t h=>t 0 = .fs 4 (List.map b3k s)/\t 1 = .fn f_n f_a f_b) ⟨rfl,rfl⟩ fun t h ⟨s0,s1⟩=>?_;simp only [x_slices_IndexFunc_api_Term_api_Literal_];apply b0b;intro K hK;simp only [go_sem];apply hK;refine b0v ?_;apply b0b;intro K hK;simp only [go_sem,s0];apply hK;refine b0i fun K1 hK1=>?_
 have J2:∀ (t:Slots) (h:Heap),d5f=some r->K1 t h:=by
  intro t h hm0;refine hK1 _ _ ?_;unfold d5f at hm0;apply b0b;intro K hK;simp only [go_sem];apply hK;simp only [b0x,b1p,b2e,b0y];obtain rfl:=sI9 hm0;exact b04 vb9 (b0e _)
 simp only [b0u];obtain ⟨b3,hl3,hm0⟩:=b0g hm0;refine b1j hl3 (fun|x_8,t,h=>t 0 = .fs 4 (List.map b3k s)/\t 1 = .fn f_n f_a f_b/\t 7=I (List.length s:Int)/\t 8=I x_8) ?_ ?_
 ·exact ⟨s0,s1,va9,va9⟩
 ·rintro x_8 o t h ⟨s0,s1,s7,s8⟩ hm1 hb3;simp only [g3e] at hm1;rw [g5f];apply b0b;intro K hK;simp only [go_sem,s7,s8];apply hK;refine b0i fun K4 hK4=>?_;simp only [go_sem];refine b0k (fun hc5=>?_) (fun hc5=>?_)
  ·rw [b0r hc5] at hm1;simp only [b0s,b02,b0f];refine hK4 _ _ ?_;refine b0i fun K6 hK6=>?_;simp only [b0u];apply b0b;intro K hK;simp only [go_sem,s8];apply hK;obtain ⟨x9,h_x9,hm1⟩:=b0g hm1;have h_x90:=b05 h_x9;have h_x91:=b06 h_x9;obtain ⟨y10,h_y10,hm1⟩:=b0g hm1;apply b0b;intro K hK;simp only [go_sem,s0,s1,b08 h_x9,b3n h_x9,h_x90,h_x91];refine o5t (f_h x9 _ h_y10) ?_;simp only [go_sem,s0,s1,b08 h_x9,b3n h_x9,h_x90,h_x91];apply hK;simp only [go_sem];refine b0k (fun hc11=>?_) (fun hc11=>?_)
   ·rw [b0r hc11] at hm1;apply b0b;intro K hK;simp only [go_sem];apply hK;simp only [b0x,b1p,b2e,b0y];obtain rfl:=sI9 hm1;obtain rfl:=hb3 _ rfl
    try dsimp only at hm0
    obtain rfl:=sI9 hm0;exact b04 vb9 (b0e _)
   ·rw [b0q hc11] at hm1;simp only [b0s,b02,b0f];refine hK6 _ _ ?_;apply b03;intro K hK;simp only [go_sem,s8];apply hK;simp only [b02,b0f];obtain rfl:=sI9 hm1;refine ⟨_,rfl,?_⟩;exact ⟨s0,s1,s7,(by first|(simp only [go_sem,s8,lA9,mA9]; done)|rfl)⟩
  ·rw [b0q hc5] at hm1;simp only [b09,b1b,b1a,c0s,b02,b0f,Nat.reduceEqDiff,nF9];obtain rfl:=sI9 hm1;obtain rfl:=hb3 _ rfl
   try dsimp only at hm0
   exact J2  _ _  hm0
end Go.Nw.UM
