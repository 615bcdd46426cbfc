/- That the texts make what their models say: printed by a program. -/
import Derived.Test.YtojneiildpnpiaaEM
set_option linter.all false
namespace Go.Nw.EM
open Go.Nw.Tp6
set_option maxHeartbeats 4000000
variable {O:Orac} [MapsOk O]
theorem G3x (hf:Has O "newel/halls.rates" x_halls_rates):G11 O:=by
 intro h_ comb r hm0;unfold E8j at hm0;refine j04 hf rfl (b0a (.agg _ (b0a (b0c fun a _=>c62 a) (b0a (b0c fun a _=>c19 a) (b0a (b0c fun a _=>c69 a) (b0a (b0e _) b0j))))) (b0a (b0e _) b0j)) (by first|exact r24|exact r23) ?_;refine b1c (fun t h=>t 0 = .agg [.fs 5 (List.map b15 h_.Combs),.fs 3 (List.map g10 h_.Trains),.fs 3 (List.map b20 h_.Shifts),I h_.Until]/\t 1=I comb) ⟨rfl,rfl⟩ fun t h ⟨s0,s1⟩=>?_;simp only [x_halls_rates];apply b0b;intro K hK;simp only [go_sem,s0];apply hK;obtain ⟨l2,h_l2,hm0⟩:=b0g hm0;apply b0b;intro K hK;simp only [go_sem];refine d2k (f:=eI) (z:=0) rfl h_l2 ?_;simp only [go_sem];apply hK;obtain ⟨x4,h_x4,hm0⟩:=b0g hm0;have h_x40:=b05 h_x4;have h_x41:=b06 h_x4;apply b0b;intro K hK;simp only [go_sem,s1,b08 h_x4,b3n h_x4,h_x40,h_x41];apply hK;refine b0v ?_;apply b0b;intro K hK;simp only [go_sem];apply hK;refine b0i fun K5 hK5=>?_
 have J6:∀ (out_5:List Int) (i5:Nat) (t:Slots) (h:Heap),t 5 = .rs i5 0 (List.length out_5)->h.ob i5=some (1,List.map eI out_5)->i5<h.nx->E94 out_5=some r->K5 t h:=by
  intro out_5 i5 t h s5 Q2 Q1 hm0;refine hK5 _ _ ?_;unfold E94 at hm0;apply b0b;intro K hK;simp only [go_sem,s5,Q2,Q1];apply hK;simp only [b0x,b1p,b2e,b0y];obtain rfl:=sI9 hm0;exact g9v (id:=i5) vc9 (by simp only [go_sem,Q2,Q1,lA9,mA9]) (by first|exact r24|exact r23)
 simp only [b0u];obtain ⟨b7,hl7,hm0⟩:=b0g hm0;refine b1j hl7 (fun|(out_5,now_6,at_7,x_20),t,h=>∃ i5:Nat,t 1=I comb/\t 2 = .fp [.fs 5 (List.map b15 h_.Combs),.fs 3 (List.map g10 h_.Trains),.fs 3 (List.map b20 h_.Shifts),I h_.Until] 0/\t 5 = .rs i5 0 (List.length out_5)/\t 6=I now_6/\t 7=I at_7/\t 19=I ((List.length l2:Nat):Int)/\t 20=I x_20/\h.ob i5=some (1,List.map eI out_5)/\i5<h.nx) ?_ ?_
 ·exact ⟨h.nx,s1,va9,va9,va9,va9,va9,va9,vc9,vg9⟩
 ·rintro ⟨out_5,now_6,at_7,x_20⟩ o t h ⟨i5,s1,s2,s5,s6,s7,s19,s20,Q2,Q1⟩ hm1 hb7;simp only [E8k] at hm1;rw [G7v];apply b0b;intro K hK;simp only [go_sem,s19,s20,Q1];apply hK;refine b0i fun K8 hK8=>?_;simp only [go_sem];refine b0k (fun hc9=>?_) (fun hc9=>?_)
  ·rw [b0r hc9] at hm1;simp only [b0s,b02,b0f];refine hK8 _ _ ?_;refine b0i fun K10 hK10=>?_
   have J11:∀ (out_5_1:List Int) (now_6_1 at_7_1:Int) (t:Slots) (h:Heap),t 1=I comb->t 2 = .fp [.fs 5 (List.map b15 h_.Combs),.fs 3 (List.map g10 h_.Trains),.fs 3 (List.map b20 h_.Shifts),I h_.Until] 0->t 5 = .rs i5 0 (List.length out_5_1)->t 6=I now_6_1->t 7=I at_7_1->t 19=I ((List.length l2:Nat):Int)->t 20=I x_20->h.ob i5=some (1,List.map eI out_5_1)->i5<h.nx->E9c x_20 out_5_1 now_6_1 at_7_1=some o->K10 t h:=by
    try clear s1 s2 s5 s6 s7 s19 s20 Q2 Q1
    intro out_5_1 now_6_1 at_7_1 t h s1 s2 s5 s6 s7 s19 s20 Q2 Q1 hm1;refine hK10 _ _ ?_;unfold E9c at hm1;apply b03;intro K hK;simp only [go_sem,s20,Q1];apply hK;simp only [b02,b0f];obtain rfl:=sI9 hm1;refine ⟨_,rfl,?_⟩;exact ⟨i5,s1,s2,(by first|exact s5|simp only [go_sem,s5,lA9,mA9]),s6,s7,s19,(by first|(simp only [go_sem,s20,lA9,mA9]; done)|rfl),Q2,Q1⟩
   simp only [b0u];apply b0b;intro K hK;simp only [go_sem,s20,Q1];apply hK;refine b0i fun K12 hK12=>?_
   have J13:∀ (now_6_1 at_7_1:Int) (t:Slots) (h:Heap),t 1=I comb->t 2 = .fp [.fs 5 (List.map b15 h_.Combs),.fs 3 (List.map g10 h_.Trains),.fs 3 (List.map b20 h_.Shifts),I h_.Until] 0->t 5 = .rs i5 0 (List.length out_5)->t 6=I now_6_1->t 7=I at_7_1->t 8=I x_20->t 19=I ((List.length l2:Nat):Int)->t 20=I x_20->h.ob i5=some (1,List.map eI out_5)->i5<h.nx->E9d out_5 x_20 now_6_1 at_7_1=some o->K12 t h:=by
    try clear s1 s2 s5 s6 s7 s19 s20 Q2 Q1
    intro now_6_1 at_7_1 t h s1 s2 s5 s6 s7 s8 s19 s20 Q2 Q1 hm1;refine hK12 _ _ ?_;unfold E9d at hm1;obtain ⟨x15,h_x15,hm1⟩:=b0g hm1;have h_x150:=b05 h_x15;have h_x151:=b06 h_x15;apply b03;intro K hK;simp only [go_sem,s5,s6,s8,Q2,Q1,b08 h_x15,b3n h_x15,h_x150,h_x151];apply hK;simp only [b02,b0f];exact J11 (List.set out_5 (Int.toNat x_20) now_6_1) now_6_1 at_7_1 _ _ s1 s2 (by first|exact s5|simp only [go_sem,s5,lA9,mA9]) s6 s7 s19 s20 (by simp only [go_sem,Q2,Q1,lA9,mA9]) (by simp only [go_sem,Q1]) hm1
   simp only [b0u];obtain ⟨b16,hl16,hm1⟩:=b0g hm1;refine b1j hl16 (fun|(now_6_1,at_7_1),t,h=>t 1=I comb/\t 2 = .fp [.fs 5 (List.map b15 h_.Combs),.fs 3 (List.map g10 h_.Trains),.fs 3 (List.map b20 h_.Shifts),I h_.Until] 0/\t 5 = .rs i5 0 (List.length out_5)/\t 6=I now_6_1/\t 7=I at_7_1/\t 8=I x_20/\t 19=I ((List.length l2:Nat):Int)/\t 20=I x_20/\h.ob i5=some (1,List.map eI out_5)/\i5<h.nx) ?_ ?_
   ·exact ⟨s1,s2,(by first|exact s5|simp only [go_sem,s5,lA9,mA9]),s6,s7,va9,s19,s20,Q2,Q1⟩
   ·try clear s1 s2 s5 s6 s7 s19 s20 Q2 Q1
    rintro ⟨now_6_1,at_7_1⟩ o t h ⟨s1,s2,s5,s6,s7,s8,s19,s20,Q2,Q1⟩ hm2 hb16;simp only [E73] at hm2;rw [G7u];refine b0v ?_;obtain ⟨c20,h_c20,hm2⟩:=b0g hm2;refine b2p (fun t h=>t 1=I comb/\t 2 = .fp [.fs 5 (List.map b15 h_.Combs),.fs 3 (List.map g10 h_.Trains),.fs 3 (List.map b20 h_.Shifts),I h_.Until] 0/\t 5 = .rs i5 0 (List.length out_5)/\t 6=I now_6_1/\t 7=I at_7_1/\t 8=I x_20/\t 19=I ((List.length l2:Nat):Int)/\t 20=I x_20/\t 37=B c20/\h.ob i5=some (1,List.map eI out_5)/\i5<h.nx) (fun K hK=>?_) ?_
    ·simp only [go_sem,s2,s7,s8,Q1];refine b0k (fun hg21=>?_) (fun hg21=>?_)
     ·simp only [hg21,Bool.not_true,Bool.not_false,eq_self,if_true,if_false,Bool.true_or,Bool.or_true,Bool.false_or,Bool.or_false,Bool.true_and,Bool.and_true,Bool.false_and,Bool.and_false,fT9] at h_c20;obtain ⟨x19,h_x19,h_c20⟩:=b0g h_c20;have h_x190:=b05 h_x19;have h_x191:=b06 h_x19;obtain rfl:=sI9 h_c20;simp only [go_sem,s2,s7,s8,Q1,b08 h_x19,b3n h_x19,h_x190,h_x191,hg21];exact hK _ _ ⟨s1,s2,(by first|exact s5|simp only [go_sem,s5,lA9,mA9]),s6,s7,s8,s19,s20,(by first|(simp only [go_sem,hg21,lA9,mA9]; done)|rfl),Q2,Q1⟩
     ·simp only [hg21,Bool.not_true,Bool.not_false,eq_self,if_true,if_false,Bool.true_or,Bool.or_true,Bool.false_or,Bool.or_false,Bool.true_and,Bool.and_true,Bool.false_and,Bool.and_false,fT9] at h_c20;obtain rfl:=sI9 h_c20;simp only [go_sem,s2,s7,s8,Q1,hg21];exact hK _ _ ⟨s1,s2,(by first|exact s5|simp only [go_sem,s5,lA9,mA9]),s6,s7,s8,s19,s20,(by first|(simp only [go_sem,hg21,lA9,mA9]; done)|rfl),Q2,Q1⟩
    ·try clear s1 s2 s5 s6 s7 s8 s19 s20 Q2 Q1
     rintro t h ⟨s1,s2,s5,s6,s7,s8,s19,s20,s37,Q2,Q1⟩;refine b0i fun K22 hK22=>?_;simp only [go_sem,s37];refine b0k (fun hc23=>?_) (fun hc23=>?_)
     ·rw [b0r hc23] at hm2;simp only [b0s,b02,b0f];refine hK22 _ _ ?_;refine b0i fun K24 hK24=>?_
      have J25:∀ (now_6_2:Int) (t:Slots) (h:Heap),t 1=I comb->t 2 = .fp [.fs 5 (List.map b15 h_.Combs),.fs 3 (List.map g10 h_.Trains),.fs 3 (List.map b20 h_.Shifts),I h_.Until] 0->t 5 = .rs i5 0 (List.length out_5)->t 6=I now_6_2->t 7=I at_7_1->t 8=I x_20->t 19=I ((List.length l2:Nat):Int)->t 20=I x_20->h.ob i5=some (1,List.map eI out_5)->i5<h.nx->E8l at_7_1 now_6_2=some o->K24 t h:=by
       try clear s1 s2 s5 s6 s7 s8 s19 s20 s37 Q2 Q1
       intro now_6_2 t h s1 s2 s5 s6 s7 s8 s19 s20 Q2 Q1 hm2;refine hK24 _ _ ?_;unfold E8l at hm2;apply b03;intro K hK;simp only [go_sem,s7,Q1];apply hK;simp only [b02,b0f];obtain rfl:=sI9 hm2;refine ⟨_,rfl,?_⟩;exact ⟨s1,s2,(by first|exact s5|simp only [go_sem,s5,lA9,mA9]),s6,(by first|(simp only [go_sem,s7,lA9,mA9]; done)|rfl),s8,s19,s20,Q2,Q1⟩
      simp only [b0u];obtain ⟨x27,h_x27,hm2⟩:=b0g hm2;have h_x270:=b05 h_x27;have h_x271:=b06 h_x27;apply b0b;intro K hK;simp only [go_sem,s1,s2,s7,Q1,b08 h_x27,b3n h_x27,h_x270,h_x271];apply hK;simp only [go_sem];refine b0k (fun hc28=>?_) (fun hc28=>?_)
      ·rw [b0r hc28] at hm2;apply b03;intro K hK;simp only [go_sem,s2,s7,Q1,b08 h_x27,b3n h_x27,h_x270,h_x271];apply hK;simp only [b02,b0f];exact J25 x27.Rate _ _ s1 s2 (by first|exact s5|simp only [go_sem,s5,lA9,mA9]) (by first|(simp only [go_sem,s6,lA9,mA9]; done)|rfl) s7 s8 s19 s20 Q2 Q1 hm2
      ·rw [b0q hc28] at hm2;simp only [b0s,b02,b0f];exact J25 now_6_1 _ _ s1 s2 (by first|exact s5|simp only [go_sem,s5,lA9,mA9]) s6 s7 s8 s19 s20 Q2 Q1 hm2
     ·rw [b0q hc23] at hm2;simp only [b09,b1b,b1a,c0s,b02,b0f,Nat.reduceEqDiff,nF9];obtain rfl:=sI9 hm2;obtain rfl:=hb16 _ rfl
      try dsimp only at hm1
      exact J13 now_6_1 at_7_1 _ _ s1 s2 (by first|exact s5|simp only [go_sem,s5,lA9,mA9]) s6 s7 s8 s19 s20 Q2 Q1 hm1
  ·rw [b0q hc9] at hm1;simp only [b09,b1b,b1a,c0s,b02,b0f,Nat.reduceEqDiff,nF9];obtain rfl:=sI9 hm1;obtain rfl:=hb7 _ rfl
   try dsimp only at hm0
   exact J6 out_5 i5 _ _ (by first|exact s5|simp only [go_sem,s5,lA9,mA9]) Q2 Q1 hm0
theorem P43 (hf:Has O "newel/neweltop.TopExit" x_neweltop_TopExit) (k_neweltop_measures:L16 O) (P22:P2d O) (P2y:P2p O) (P2z:P2q O) (N2a:N1b O):P28 O:=by
 intro x r hm0;unfold P2b at hm0;refine b1i hf rfl (b0a (.agg _ (b0a (b0e _) (b0a (b0e _) (b0a (b0e _) (b0a (b0e _) b0j))))) b0j) (b0e _) ?_;refine b1c (fun t h=>t 0 = .agg [I x.People,I x.Wide,I x.Ticks,I x.Tick]) rfl fun t h s0=>?_;simp only [x_neweltop_TopExit];apply b0b;intro K hK;simp only [go_sem,s0];apply hK;refine b0v ?_;refine b2p (fun t h=>t 1 = .fp [I x.People,I x.Wide,I x.Ticks,I x.Tick] 0/\t 45=B ((((((decide (x.People<1)) || (decide (1000<x.People))) || (decide (x.Wide<1))) || (decide (50<x.Wide))) || (decide (x.Ticks<1))) || (decide (20<x.Ticks)))) (fun K hK=>?_) ?_
 ·simp only [go_sem];refine b0k (fun hg1=>?_) (fun hg1=>?_)
  ·simp only [go_sem,hg1];exact hK _ _ ⟨(by first|(simp only [go_sem,hg1,lA9,mA9]; done)|rfl),(by first|(simp only [go_sem,hg1,lA9,mA9]; done)|rfl)⟩
  ·simp only [go_sem,hg1];refine b0k (fun hg2=>?_) (fun hg2=>?_)
   ·simp only [go_sem,hg1,hg2];exact hK _ _ ⟨(by first|(simp only [go_sem,hg1,hg2,lA9,mA9]; done)|rfl),(by first|(simp only [go_sem,hg1,hg2,lA9,mA9]; done)|rfl)⟩
   ·simp only [go_sem,hg1,hg2];refine b0k (fun hg3=>?_) (fun hg3=>?_)
    ·simp only [go_sem,hg1,hg2,hg3];exact hK _ _ ⟨(by first|(simp only [go_sem,hg1,hg2,hg3,lA9,mA9]; done)|rfl),(by first|(simp only [go_sem,hg1,hg2,hg3,lA9,mA9]; done)|rfl)⟩
    ·simp only [go_sem,hg1,hg2,hg3];refine b0k (fun hg4=>?_) (fun hg4=>?_)
     ·simp only [go_sem,hg1,hg2,hg3,hg4];exact hK _ _ ⟨(by first|(simp only [go_sem,hg1,hg2,hg3,hg4,lA9,mA9]; done)|rfl),(by first|(simp only [go_sem,hg1,hg2,hg3,hg4,lA9,mA9]; done)|rfl)⟩
     ·simp only [go_sem,hg1,hg2,hg3,hg4];refine b0k (fun hg5=>?_) (fun hg5=>?_)
      ·simp only [go_sem,hg1,hg2,hg3,hg4,hg5];exact hK _ _ ⟨(by first|(simp only [go_sem,hg1,hg2,hg3,hg4,hg5,lA9,mA9]; done)|rfl),(by first|(simp only [go_sem,hg1,hg2,hg3,hg4,hg5,lA9,mA9]; done)|rfl)⟩
      ·simp only [go_sem,hg1,hg2,hg3,hg4,hg5];exact hK _ _ ⟨(by first|(simp only [go_sem,hg1,hg2,hg3,hg4,hg5,lA9,mA9]; done)|rfl),(by first|(simp only [go_sem,hg1,hg2,hg3,hg4,hg5,lA9,mA9]; done)|rfl)⟩
 ·rintro t h ⟨s1,s45⟩;refine b0i fun K6 hK6=>?_;simp only [go_sem,s45];refine b0k (fun hc7=>?_) (fun hc7=>?_)
  ·rw [b0r hc7] at hm0;obtain ⟨y9,h_y9,hm0⟩:=b0g hm0;apply b0b;intro K hK;simp only [go_sem];refine b01 (k_neweltop_measures  _ h_y9) ?_;simp only [go_sem];apply hK;simp only [b0x,b1p,b2e,b0y];obtain rfl:=sI9 hm0;exact b04 vc9 (b0e _)
  ·rw [b0q hc7] at hm0;simp only [b0s,b02,b0f];refine hK6 _ _ ?_;apply b0b;intro K hK;simp only [go_sem,s1];apply hK;apply b0b;intro K hK;simp only [go_sem,s1];apply hK;apply b0b;intro K hK;simp only [go_sem,s1];apply hK;apply b0b;intro K hK;simp only [go_sem,s1];apply hK;obtain ⟨y11,h_y11,hm0⟩:=b0g hm0;apply b0b;intro K hK;simp only [go_sem];refine b01 (P22 (Station.mk 2 ([(Passage.mk 0 1 1 x.Ticks x.Wide (-1) 0)]) ([1])) 0 ([x.People,0]) _ h_y11) ?_;simp only [go_sem];apply hK;obtain ⟨y13,h_y13,hm0⟩:=b0g hm0;apply b0b;intro K hK;simp only [go_sem];refine r2x ?_ (b0a (.agg _ (b0a (b0c (f:=b15) (l:=[(Comb.mk x.Wide 0 (-1) (Span.mk 1 1))]) fun a _=>c62 a) (b0a (b0c (f:=g10) (l:=[(Train.mk (Span.mk 0 0) ([(Crowd.mk 0 (Span.mk x.People x.People))]))]) fun a _=>c19 a) (b0a (b0e _) (b0a (b0e _) b0j))))) b0j) (P2y (Hall.mk ([(Comb.mk x.Wide 0 (-1) (Span.mk 1 1))]) ([(Train.mk (Span.mk 0 0) ([(Crowd.mk 0 (Span.mk x.People x.People))]))]) ([]) 100) _ h_y13) ?_
   ·exact .cons (d79 (.cons (.refl _ (b0c (f:=b15) (l:=[(Comb.mk x.Wide 0 (-1) (Span.mk 1 1))]) fun a _=>c62 a)) (.cons (.refl _ (b0c (f:=g10) (l:=[(Train.mk (Span.mk 0 0) ([(Crowd.mk 0 (Span.mk x.People x.People))]))]) fun a _=>c19 a)) (.cons (.nil _) (.cons (.refl _ (b0e _)) (.nil)))))) (.nil)
   simp only [go_sem];apply hK;refine b0v ?_;apply b0b;intro K hK;simp only [go_sem];apply hK;refine b0i fun K14 hK14=>?_;simp only [go_sem];refine b0k (fun hc15=>?_) (fun hc15=>?_)
   ·rw [b0r hc15] at hm0;apply b0b;intro K hK;simp only [go_sem];apply hK;simp only [b0x,b1p,b2e,b0y];obtain rfl:=sI9 hm0;exact b04 vc9 (b0e _)
   ·rw [b0q hc15] at hm0;simp only [b0s,b02,b0f];refine hK14 _ _ ?_;apply b0b;intro K hK;simp only [go_sem,s1];apply hK;refine b0v ?_;apply b0b;intro K hK;simp only [go_sem];apply hK;refine b0i fun K16 hK16=>?_
    have J17:∀ (i3 i5:Nat) (t:Slots) (h:Heap),t 1 = .fp [I x.People,I x.Wide,I x.Ticks,I x.Tick] 0->t 3 = .rp i3 0 0->t 5 = .rp i5 0 0->t 6 = .fs 1 (List.map eI ([x.People,0]))->h.ob i3=some (3,[[I 2,.fs 7 (List.map z9o ([(Passage.mk 0 1 1 x.Ticks x.Wide (-1) 0)])),.fs 1 (List.map eI ([1]))]])->i3<h.nx->h.ob i5=some (4,[[.fs 5 (List.map b15 ([(Comb.mk x.Wide 0 (-1) (Span.mk 1 1))])),.fs 3 (List.map g10 ([(Train.mk (Span.mk 0 0) ([(Crowd.mk 0 (Span.mk x.People x.People))]))])),.v (.slice none 0 0),I 100]])->i5<h.nx->¬i3=i5->P14 x=some r->K16 t h:=by
     intro i3 i5 t h s1 s3 s5 s6 Q3 Q0 Q2 Q1 Q4 hm0;refine hK16 _ _ ?_;unfold P14 at hm0;refine b0v ?_;refine b2p (fun t h=>t 1 = .fp [I x.People,I x.Wide,I x.Ticks,I x.Tick] 0/\t 3 = .rp i3 0 0/\t 5 = .rp i5 0 0/\t 6 = .fs 1 (List.map eI ([x.People,0]))/\t 110=B ((decide (x.Tick<0)) || (decide (60<x.Tick)))/\h.ob i3=some (3,[[I 2,.fs 7 (List.map z9o ([(Passage.mk 0 1 1 x.Ticks x.Wide (-1) 0)])),.fs 1 (List.map eI ([1]))]])/\i3<h.nx/\h.ob i5=some (4,[[.fs 5 (List.map b15 ([(Comb.mk x.Wide 0 (-1) (Span.mk 1 1))])),.fs 3 (List.map g10 ([(Train.mk (Span.mk 0 0) ([(Crowd.mk 0 (Span.mk x.People x.People))]))])),.v (.slice none 0 0),I 100]])/\i5<h.nx/\¬i3=i5) (fun K hK=>?_) ?_
     ·simp only [go_sem,s1,Q0,Q1];refine b0k (fun hg18=>?_) (fun hg18=>?_)
      ·simp only [go_sem,s1,Q0,Q1,hg18];exact hK _ _ ⟨s1,s3,s5,s6,(by first|(simp only [go_sem,hg18,lA9,mA9]; done)|rfl),Q3,Q0,Q2,Q1,Q4⟩
      ·simp only [go_sem,s1,Q0,Q1,hg18];exact hK _ _ ⟨s1,s3,s5,s6,(by first|(simp only [go_sem,hg18,lA9,mA9]; done)|rfl),Q3,Q0,Q2,Q1,Q4⟩
     ·try clear s1 s3 s5 s6 Q3 Q0 Q2 Q1 Q4
      rintro t h ⟨s1,s3,s5,s6,s110,Q3,Q0,Q2,Q1,Q4⟩;refine b0i fun K19 hK19=>?_;simp only [go_sem,s110];refine b0k (fun hc20=>?_) (fun hc20=>?_)
      ·rw [b0r hc20] at hm0;obtain ⟨y22,h_y22,hm0⟩:=b0g hm0;apply b0b;intro K hK;simp only [go_sem,Q0,Q1];refine b01 (k_neweltop_measures  _ h_y22) ?_;simp only [go_sem,Q0,Q1];apply hK;simp only [b0x,b1p,b2e,b0y];obtain rfl:=sI9 hm0;exact b04 (by simp only [go_sem,Q3,Q0,Q2,Q1,Q4,b1z Q4,lA9,mA9]) (b0e _)
      ·rw [b0q hc20] at hm0;simp only [b0s,b02,b0f];refine hK19 _ _ ?_;obtain ⟨y24,h_y24,hm0⟩:=b0g hm0;apply b0b;intro K hK;simp only [go_sem,s1,s5,Q2,Q1,Q0,Q4,b1z Q4];refine r2x ?_ (b0a (.agg _ (b0a (b0c (f:=b15) (l:=[(Comb.mk x.Wide 0 (-1) (Span.mk 1 1))]) fun a _=>c62 a) (b0a (b0c (f:=g10) (l:=[(Train.mk (Span.mk 0 0) ([(Crowd.mk 0 (Span.mk x.People x.People))]))]) fun a _=>c19 a) (b0a (b0e _) (b0a (b0e _) b0j))))) (b0a (.agg _ (b0a (b0c (f:=eI) (l:=[0]) fun a _=>b1t a) (b0a (b0c (f:=b2f) (l:=[[x.People]]) fun a _=>b8i a) (b0a (b0c (f:=b2f) (l:=[[1]]) fun a _=>b8i a) b0j)))) b0j)) (P2z (Hall.mk ([(Comb.mk x.Wide 0 (-1) (Span.mk 1 1))]) ([(Train.mk (Span.mk 0 0) ([(Crowd.mk 0 (Span.mk x.People x.People))]))]) ([]) 100) (Day.mk ([0]) ([[x.People]]) ([[1]])) _ h_y24) ?_
       ·exact .cons (d79 (.cons (.refl _ (b0c (f:=b15) (l:=[(Comb.mk x.Wide 0 (-1) (Span.mk 1 1))]) fun a _=>c62 a)) (.cons (.refl _ (b0c (f:=g10) (l:=[(Train.mk (Span.mk 0 0) ([(Crowd.mk 0 (Span.mk x.People x.People))]))]) fun a _=>c19 a)) (.cons (.nil _) (.cons (.refl _ (b0e _)) (.nil)))))) (.cons (.refl _ (.agg _ (b0a (b0c (f:=eI) (l:=[0]) fun a _=>b1t a) (b0a (b0c (f:=b2f) (l:=[[x.People]]) fun a _=>b8i a) (b0a (b0c (f:=b2f) (l:=[[1]]) fun a _=>b8i a) b0j))))) (.nil))
       simp only [go_sem,s1,s5,Q2,Q1,Q0,Q4,b1z Q4];apply hK;refine b0v ?_;refine b2p (fun t h=>t 1 = .fp [I x.People,I x.Wide,I x.Ticks,I x.Tick] 0/\t 3 = .rp i3 0 0/\t 6 = .fs 1 (List.map eI ([x.People,0]))/\t 12 = .fs 1 (List.map b2f y24.1)/\t 133=B ((decide (¬y24.2=0)) || (decide (¬(List.length y24.1:Int)=100)))/\h.ob i3=some (3,[[I 2,.fs 7 (List.map z9o ([(Passage.mk 0 1 1 x.Ticks x.Wide (-1) 0)])),.fs 1 (List.map eI ([1]))]])/\i3<h.nx) (fun K hK=>?_) ?_
       ·simp only [go_sem,s5,Q2,Q1,Q0,Q4,b1z Q4];refine b0k (fun hg25=>?_) (fun hg25=>?_)
        ·simp only [go_sem,s5,Q2,Q1,Q0,Q4,b1z Q4,hg25];exact hK _ _ ⟨s1,s3,s6,(by first|(simp only [go_sem,hg25,lA9,mA9]; done)|rfl),(by first|(simp only [go_sem,hg25,lA9,mA9]; done)|rfl),Q3,Q0⟩
        ·simp only [go_sem,s5,Q2,Q1,Q0,Q4,b1z Q4,hg25];exact hK _ _ ⟨s1,s3,s6,(by first|(simp only [go_sem,hg25,lA9,mA9]; done)|rfl),(by first|(simp only [go_sem,hg25,lA9,mA9]; done)|rfl),Q3,Q0⟩
       ·try clear s1 s3 s5 s6 s110 Q3 Q0 Q2 Q1 Q4
        rintro t h ⟨s1,s3,s6,s12,s133,Q3,Q0⟩;refine b0i fun K26 hK26=>?_;simp only [go_sem,s133];refine b0k (fun hc27=>?_) (fun hc27=>?_)
        ·rw [b0r hc27] at hm0;apply b0b;intro K hK;simp only [go_sem,Q0];apply hK;simp only [b0x,b1p,b2e,b0y];obtain rfl:=sI9 hm0;exact b04 (by simp only [go_sem,Q3,Q0,lA9,mA9]) (b0e _)
        ·rw [b0q hc27] at hm0;simp only [b0s,b02,b0f];refine hK26 _ _ ?_;apply b0b;intro K hK;simp only [go_sem,Q0];apply hK;refine b0v ?_;apply b0b;intro K hK;simp only [go_sem,Q0];apply hK;refine b0i fun K28 hK28=>?_
         have J29:∀ (passed_14:Int) (t:Slots) (h:Heap),t 1 = .fp [I x.People,I x.Wide,I x.Ticks,I x.Tick] 0->t 3 = .rp i3 0 0->t 6 = .fs 1 (List.map eI ([x.People,0]))->t 14=I passed_14->h.ob i3=some (3,[[I 2,.fs 7 (List.map z9o ([(Passage.mk 0 1 1 x.Ticks x.Wide (-1) 0)])),.fs 1 (List.map eI ([1]))]])->i3<h.nx->P2m x passed_14=some r->K28 t h:=by
          intro passed_14 t h s1 s3 s6 s14 Q3 Q0 hm0;refine hK28 _ _ ?_;unfold P2m at hm0;obtain ⟨y31,h_y31,hm0⟩:=b0g hm0;apply b0b;intro K hK;simp only [go_sem,s1,s3,s6,Q3,Q0];refine b01 (N2a (Station.mk 2 ([(Passage.mk 0 1 1 x.Ticks x.Wide (-1) 0)]) ([1])) 0 ([x.People,0]) x.Tick _ h_y31) ?_;simp only [go_sem,s1,s3,s6,Q3,Q0];apply hK;obtain ⟨c35,h_c35,hm0⟩:=b0g hm0;refine b2p (fun t h=>t 2=B c35) (fun K hK=>?_) ?_
          ·simp only [go_sem,s14,Q0];refine b0k (fun hg36=>?_) (fun hg36=>?_)
           ·simp only [go_sem,s14,Q0,hg36];refine b0k (fun hg37=>?_) (fun hg37=>?_)
            ·simp only [hg36,hg37,Bool.not_true,Bool.not_false,eq_self,if_true,if_false,Bool.true_or,Bool.or_true,Bool.false_or,Bool.or_false,Bool.true_and,Bool.and_true,Bool.false_and,Bool.and_false,fT9] at h_c35;obtain ⟨y34,h_y34,h_c35⟩:=b0g h_c35;obtain rfl:=sI9 h_c35;simp only [go_sem,s14,Q0,hg36,hg37];refine b01 (k_neweltop_measures  _ h_y34) ?_;simp only [go_sem,s14,Q0,hg36,hg37];exact hK _ _ (by first|(simp only [go_sem,hg36,hg37,lA9,mA9]; done)|rfl)
            ·simp only [hg36,hg37,Bool.not_true,Bool.not_false,eq_self,if_true,if_false,Bool.true_or,Bool.or_true,Bool.false_or,Bool.or_false,Bool.true_and,Bool.and_true,Bool.false_and,Bool.and_false,fT9] at h_c35;obtain rfl:=sI9 h_c35;simp only [go_sem,s14,Q0,hg36,hg37];exact hK _ _ (by first|(simp only [go_sem,hg36,hg37,lA9,mA9]; done)|rfl)
           ·simp only [hg36,Bool.not_true,Bool.not_false,eq_self,if_true,if_false,Bool.true_or,Bool.or_true,Bool.false_or,Bool.or_false,Bool.true_and,Bool.and_true,Bool.false_and,Bool.and_false,fT9] at h_c35;obtain rfl:=sI9 h_c35;simp only [go_sem,s14,Q0,hg36];exact hK _ _ (by first|(simp only [go_sem,hg36,lA9,mA9]; done)|rfl)
          ·rintro t h s2;simp only [b0x,b1p,b2e,b0y];obtain rfl:=sI9 hm0;exact b04 (by simp only [go_sem,s2,lA9,mA9]) (b0e _)
         simp only [b0u];obtain ⟨b38,hl38,hm0⟩:=b0g hm0;refine b1j hl38 (fun|(passed_14,t_15),t,h=>t 1 = .fp [I x.People,I x.Wide,I x.Ticks,I x.Tick] 0/\t 3 = .rp i3 0 0/\t 6 = .fs 1 (List.map eI ([x.People,0]))/\t 12 = .fs 1 (List.map b2f y24.1)/\t 14=I passed_14/\t 15=I t_15/\h.ob i3=some (3,[[I 2,.fs 7 (List.map z9o ([(Passage.mk 0 1 1 x.Ticks x.Wide (-1) 0)])),.fs 1 (List.map eI ([1]))]])/\i3<h.nx) ?_ ?_
         ·exact ⟨s1,s3,s6,s12,va9,va9,Q3,Q0⟩
         ·rintro ⟨passed_14,t_15⟩ o t h ⟨s1,s3,s6,s12,s14,s15,Q3,Q0⟩ hm1 hb38;simp only [P13] at hm1;rw [P30];refine b0v ?_;apply b0b;intro K hK;simp only [go_sem,s1,s15,Q0];apply hK;refine b0i fun K39 hK39=>?_;simp only [go_sem];refine b0k (fun hc40=>?_) (fun hc40=>?_)
          ·rw [b0r hc40] at hm1;simp only [b0s,b02,b0f];refine hK39 _ _ ?_;refine b0i fun K41 hK41=>?_;simp only [b0u];refine b0v ?_;obtain ⟨x43,h_x43,hm1⟩:=b0g hm1;have h_x430:=b05 h_x43;have h_x431:=b06 h_x43;apply b0b;intro K hK;simp only [go_sem,s12,s15,Q0,b08 h_x43,b3n h_x43,h_x430,h_x431];apply hK;refine b0i fun K44 hK44=>?_;simp only [go_sem];refine b0k (fun hc45=>?_) (fun hc45=>?_)
           ·rw [b0r hc45] at hm1;apply b0b;intro K hK;simp only [go_sem,Q0];apply hK;simp only [b0x,b1p,b2e,b0y];obtain rfl:=sI9 hm1;obtain rfl:=hb38 _ rfl
            try dsimp only at hm0
            obtain rfl:=sI9 hm0;exact b04 (by simp only [go_sem,Q3,Q0,lA9,mA9]) (b0e _)
           ·rw [b0q hc45] at hm1;simp only [b0s,b02,b0f];refine hK44 _ _ ?_;obtain ⟨x47,h_x47,hm1⟩:=b0g hm1;have h_x470:=b05 h_x47;have h_x471:=b06 h_x47;apply b03;intro K hK;simp only [go_sem,s1,s12,s14,s15,Q0,b08 h_x47,b3n h_x47,h_x470,h_x471,b08 h_x43,b3n h_x43,h_x430,h_x431];apply hK;simp only [b02,b0f];refine hK41 _ _ ?_;apply b03;intro K hK;simp only [go_sem,s15,Q0];apply hK;simp only [b02,b0f];obtain rfl:=sI9 hm1;refine ⟨_,rfl,?_⟩;exact ⟨s1,s3,s6,s12,(by first|(simp only [go_sem,s14,lA9,mA9]; done)|rfl),(by first|(simp only [go_sem,s15,lA9,mA9]; done)|rfl),Q3,Q0⟩
          ·rw [b0q hc40] at hm1;simp only [b09,b1b,b1a,c0s,b02,b0f,Nat.reduceEqDiff,nF9];obtain rfl:=sI9 hm1;obtain rfl:=hb38 _ rfl
           try dsimp only at hm0
           exact J29 passed_14 _ _ s1 s3 s6 s14 Q3 Q0 hm0
    simp only [go_sem];refine b0k (fun hc49=>?_) (fun hc49=>?_)
    ·rw [b0r hc49] at hm0;apply b0b;intro K hK;simp only [go_sem];apply hK;simp only [go_sem];refine b0k (fun hc50=>?_) (fun hc50=>?_)
     ·rw [b0r hc50] at hm0;apply b0b;intro K hK;simp only [go_sem];apply hK;simp only [b0x,b1p,b2e,b0y];obtain rfl:=sI9 hm0;exact b04 vc9 (b0e _)
     ·rw [b0q hc50] at hm0;simp only [b0s,b02,b0f];exact J17 h.nx (nxs (nxs h.nx)) _ _ s1 va9 va9 va9 vc9 vg9 vc9 vg9 vd9 hm0
    ·rw [b0q hc49] at hm0;refine b2p (fun t h=>∃ i3 i5:Nat,t 1 = .fp [I x.People,I x.Wide,I x.Ticks,I x.Tick] 0/\t 3 = .rp i3 0 0/\t 5 = .rp i5 0 0/\t 6 = .fs 1 (List.map eI ([x.People,0]))/\t 102=B ((decide (¬y11.2=0)) || (decide (¬y11.1=(wr ((wr (y13.1 - 1))+x.Ticks)))))/\h.ob i3=some (3,[[I 2,.fs 7 (List.map z9o ([(Passage.mk 0 1 1 x.Ticks x.Wide (-1) 0)])),.fs 1 (List.map eI ([1]))]])/\i3<h.nx/\h.ob i5=some (4,[[.fs 5 (List.map b15 ([(Comb.mk x.Wide 0 (-1) (Span.mk 1 1))])),.fs 3 (List.map g10 ([(Train.mk (Span.mk 0 0) ([(Crowd.mk 0 (Span.mk x.People x.People))]))])),.v (.slice none 0 0),I 100]])/\i5<h.nx/\¬i3=i5) (fun K hK=>?_) ?_
     ·simp only [go_sem];refine b0k (fun hg51=>?_) (fun hg51=>?_)
      ·simp only [go_sem,hg51];exact hK _ _ ⟨h.nx,(nxs (nxs h.nx)),s1,(by first|(simp only [go_sem,hg51,lA9,mA9]; done)|rfl),(by first|(simp only [go_sem,hg51,lA9,mA9]; done)|rfl),(by first|(simp only [go_sem,hg51,lA9,mA9]; done)|rfl),(by first|(simp only [go_sem,hg51,lA9,mA9]; done)|rfl),(by simp only [go_sem,hg51,lA9,mA9]),vg9,(by simp only [go_sem,hg51,lA9,mA9]),vg9,vd9⟩
      ·simp only [go_sem,hg51];exact hK _ _ ⟨h.nx,(nxs (nxs h.nx)),s1,(by first|(simp only [go_sem,hg51,lA9,mA9]; done)|rfl),(by first|(simp only [go_sem,hg51,lA9,mA9]; done)|rfl),(by first|(simp only [go_sem,hg51,lA9,mA9]; done)|rfl),(by first|(simp only [go_sem,hg51,lA9,mA9]; done)|rfl),(by simp only [go_sem,hg51,lA9,mA9]),vg9,(by simp only [go_sem,hg51,lA9,mA9]),vg9,vd9⟩
     ·rintro t h ⟨i3,i5,s1,s3,s5,s6,s102,Q3,Q0,Q2,Q1,Q4⟩;simp only [go_sem,s102];refine b0k (fun hc52=>?_) (fun hc52=>?_)
      ·rw [b0r hc52] at hm0;apply b0b;intro K hK;simp only [go_sem,Q0,Q1];apply hK;simp only [b0x,b1p,b2e,b0y];obtain rfl:=sI9 hm0;exact b04 (by simp only [go_sem,Q3,Q0,Q2,Q1,Q4,b1z Q4,lA9,mA9]) (b0e _)
      ·rw [b0q hc52] at hm0;simp only [b0s,b02,b0f];exact J17 i3 i5 _ _ s1 s3 s5 s6 Q3 Q0 Q2 Q1 Q4 hm0
theorem G32 (hf:Has O "slices.IndexFunc[[]newel/api.Train,newel/api.Train]" x_slices_IndexFunc___api_Train_api_Train_):G19 O:=by
 intro s f_n f_a f_b f f_z f_h r hm0;unfold G0g at hm0;refine b1i hf rfl (b0a (b0c fun a _=>c19 a) (b0a f_z b0j)) (b0e _) ?_;refine b1c (fun t h=>t 0 = .fs 3 (List.map g10 s)/\t 1 = .fn f_n f_a f_b) ⟨rfl,rfl⟩ fun t h ⟨s0,s1⟩=>?_;simp only [x_slices_IndexFunc___api_Train_api_Train_];apply b0b;intro K hK;simp only [go_sem];apply hK;refine b0v ?_;apply b0b;intro K hK;simp only [go_sem,s0];apply hK;refine b0i fun K1 hK1=>?_
 have J2:∀ (t:Slots) (h:Heap),G0h=some r->K1 t h:=by
  intro t h hm0;refine hK1 _ _ ?_;unfold G0h at hm0;apply b0b;intro K hK;simp only [go_sem];apply hK;simp only [b0x,b1p,b2e,b0y];obtain rfl:=sI9 hm0;exact b04 vc9 (b0e _)
 simp only [b0u];obtain ⟨b3,hl3,hm0⟩:=b0g hm0;refine b1j hl3 (fun|x_8,t,h=>t 0 = .fs 3 (List.map g10 s)/\t 1 = .fn f_n f_a f_b/\t 7=I (List.length s:Int)/\t 8=I x_8) ?_ ?_
 ·exact ⟨s0,s1,va9,va9⟩
 ·rintro x_8 o t h ⟨s0,s1,s7,s8⟩ hm1 hb3;simp only [G1m] at hm1;rw [G73];apply b0b;intro K hK;simp only [go_sem,s7,s8];apply hK;refine b0i fun K4 hK4=>?_;simp only [go_sem];refine b0k (fun hc5=>?_) (fun hc5=>?_)
  ·rw [b0r hc5] at hm1;simp only [b0s,b02,b0f];refine hK4 _ _ ?_;refine b0i fun K6 hK6=>?_;simp only [b0u];apply b0b;intro K hK;simp only [go_sem,s8];apply hK;obtain ⟨x9,h_x9,hm1⟩:=b0g hm1;have h_x90:=b05 h_x9;have h_x91:=b06 h_x9;obtain ⟨y10,h_y10,hm1⟩:=b0g hm1;apply b0b;intro K hK;simp only [go_sem,s0,s1,b08 h_x9,b3n h_x9,h_x90,h_x91];refine o5t (f_h x9 _ h_y10) ?_;simp only [go_sem,s0,s1,b08 h_x9,b3n h_x9,h_x90,h_x91];apply hK;simp only [go_sem];refine b0k (fun hc11=>?_) (fun hc11=>?_)
   ·rw [b0r hc11] at hm1;apply b0b;intro K hK;simp only [go_sem];apply hK;simp only [b0x,b1p,b2e,b0y];obtain rfl:=sI9 hm1;obtain rfl:=hb3 _ rfl
    try dsimp only at hm0
    obtain rfl:=sI9 hm0;exact b04 vc9 (b0e _)
   ·rw [b0q hc11] at hm1;simp only [b0s,b02,b0f];refine hK6 _ _ ?_;apply b03;intro K hK;simp only [go_sem,s8];apply hK;simp only [b02,b0f];obtain rfl:=sI9 hm1;refine ⟨_,rfl,?_⟩;exact ⟨s0,s1,s7,(by first|(simp only [go_sem,s8,lA9,mA9]; done)|rfl)⟩
  ·rw [b0q hc5] at hm1;simp only [b09,b1b,b1a,c0s,b02,b0f,Nat.reduceEqDiff,nF9];obtain rfl:=sI9 hm1;obtain rfl:=hb3 _ rfl
   try dsimp only at hm0
   exact J2  _ _  hm0
theorem d3u (hf:Has O "slices.IndexFunc[[]int,int]" x_slices_IndexFunc___int_int_):d0x O:=by
 intro s f_n f_a f_b f f_z f_h r hm0;unfold d5a at hm0;refine b1i hf rfl (b0a (b0c fun a _=>b1t a) (b0a f_z b0j)) (b0e _) ?_;refine b1c (fun t h=>t 0 = .fs 1 (List.map eI s)/\t 1 = .fn f_n f_a f_b) ⟨rfl,rfl⟩ fun t h ⟨s0,s1⟩=>?_;simp only [x_slices_IndexFunc___int_int_];apply b0b;intro K hK;simp only [go_sem];apply hK;refine b0v ?_;apply b0b;intro K hK;simp only [go_sem,s0];apply hK;refine b0i fun K1 hK1=>?_
 have J2:∀ (t:Slots) (h:Heap),d5b=some r->K1 t h:=by
  intro t h hm0;refine hK1 _ _ ?_;unfold d5b at hm0;apply b0b;intro K hK;simp only [go_sem];apply hK;simp only [b0x,b1p,b2e,b0y];obtain rfl:=sI9 hm0;exact b04 vc9 (b0e _)
 simp only [b0u];obtain ⟨b3,hl3,hm0⟩:=b0g hm0;refine b1j hl3 (fun|x_8,t,h=>t 0 = .fs 1 (List.map eI s)/\t 1 = .fn f_n f_a f_b/\t 7=I (List.length s:Int)/\t 8=I x_8) ?_ ?_
 ·exact ⟨s0,s1,va9,va9⟩
 ·rintro x_8 o t h ⟨s0,s1,s7,s8⟩ hm1 hb3;simp only [g3c] at hm1;rw [g5d];apply b0b;intro K hK;simp only [go_sem,s7,s8];apply hK;refine b0i fun K4 hK4=>?_;simp only [go_sem];refine b0k (fun hc5=>?_) (fun hc5=>?_)
  ·rw [b0r hc5] at hm1;simp only [b0s,b02,b0f];refine hK4 _ _ ?_;refine b0i fun K6 hK6=>?_;simp only [b0u];apply b0b;intro K hK;simp only [go_sem,s8];apply hK;obtain ⟨x9,h_x9,hm1⟩:=b0g hm1;have h_x90:=b05 h_x9;have h_x91:=b06 h_x9;obtain ⟨y10,h_y10,hm1⟩:=b0g hm1;apply b0b;intro K hK;simp only [go_sem,s0,s1,b08 h_x9,b3n h_x9,h_x90,h_x91];refine o5t (f_h x9 _ h_y10) ?_;simp only [go_sem,s0,s1,b08 h_x9,b3n h_x9,h_x90,h_x91];apply hK;simp only [go_sem];refine b0k (fun hc11=>?_) (fun hc11=>?_)
   ·rw [b0r hc11] at hm1;apply b0b;intro K hK;simp only [go_sem];apply hK;simp only [b0x,b1p,b2e,b0y];obtain rfl:=sI9 hm1;obtain rfl:=hb3 _ rfl
    try dsimp only at hm0
    obtain rfl:=sI9 hm0;exact b04 vc9 (b0e _)
   ·rw [b0q hc11] at hm1;simp only [b0s,b02,b0f];refine hK6 _ _ ?_;apply b03;intro K hK;simp only [go_sem,s8];apply hK;simp only [b02,b0f];obtain rfl:=sI9 hm1;refine ⟨_,rfl,?_⟩;exact ⟨s0,s1,s7,(by first|(simp only [go_sem,s8,lA9,mA9]; done)|rfl)⟩
  ·rw [b0q hc5] at hm1;simp only [b09,b1b,b1a,c0s,b02,b0f,Nat.reduceEqDiff,nF9];obtain rfl:=sI9 hm1;obtain rfl:=hb3 _ rfl
   try dsimp only at hm0
   exact J2  _ _  hm0
theorem N19 (hf:Has O "slices.Index[[]int,int]" x_slices_Index___int_int_):N1t O:=by
 intro s v r hm0;unfold N1p at hm0;refine b1i hf rfl (b0a (b0c fun a _=>b1t a) (b0a (b0e _) b0j)) (b0e _) ?_;refine b1c (fun t h=>t 0 = .fs 1 (List.map eI s)/\t 1=I v) ⟨rfl,rfl⟩ fun t h ⟨s0,s1⟩=>?_;simp only [x_slices_Index___int_int_];apply b0b;intro K hK;simp only [go_sem];apply hK;refine b0v ?_;apply b0b;intro K hK;simp only [go_sem,s0];apply hK;refine b0i fun K1 hK1=>?_
 have J2:∀ (t:Slots) (h:Heap),N2u=some r->K1 t h:=by
  intro t h hm0;refine hK1 _ _ ?_;unfold N2u at hm0;apply b0b;intro K hK;simp only [go_sem];apply hK;simp only [b0x,b1p,b2e,b0y];obtain rfl:=sI9 hm0;exact b04 vc9 (b0e _)
 simp only [b0u];obtain ⟨b3,hl3,hm0⟩:=b0g hm0;refine b1j hl3 (fun|x_8,t,h=>t 0 = .fs 1 (List.map eI s)/\t 1=I v/\t 7=I (List.length s:Int)/\t 8=I x_8) ?_ ?_
 ·exact ⟨s0,s1,va9,va9⟩
 ·rintro x_8 o t h ⟨s0,s1,s7,s8⟩ hm1 hb3;simp only [N03] at hm1;rw [y7w];apply b0b;intro K hK;simp only [go_sem,s7,s8];apply hK;refine b0i fun K4 hK4=>?_;simp only [go_sem];refine b0k (fun hc5=>?_) (fun hc5=>?_)
  ·rw [b0r hc5] at hm1;simp only [b0s,b02,b0f];refine hK4 _ _ ?_;refine b0i fun K6 hK6=>?_;simp only [b0u];apply b0b;intro K hK;simp only [go_sem,s8];apply hK;obtain ⟨x8,h_x8,hm1⟩:=b0g hm1;have h_x80:=b05 h_x8;have h_x81:=b06 h_x8;apply b0b;intro K hK;simp only [go_sem,s0,s1,b08 h_x8,b3n h_x8,h_x80,h_x81];apply hK;simp only [go_sem];refine b0k (fun hc9=>?_) (fun hc9=>?_)
   ·rw [b0r hc9] at hm1;apply b0b;intro K hK;simp only [go_sem];apply hK;simp only [b0x,b1p,b2e,b0y];obtain rfl:=sI9 hm1;obtain rfl:=hb3 _ rfl
    try dsimp only at hm0
    obtain rfl:=sI9 hm0;exact b04 vc9 (b0e _)
   ·rw [b0q hc9] at hm1;simp only [b0s,b02,b0f];refine hK6 _ _ ?_;apply b03;intro K hK;simp only [go_sem,s8];apply hK;simp only [b02,b0f];obtain rfl:=sI9 hm1;refine ⟨_,rfl,?_⟩;exact ⟨s0,s1,s7,(by first|(simp only [go_sem,s8,lA9,mA9]; done)|rfl)⟩
  ·rw [b0q hc5] at hm1;simp only [b09,b1b,b1a,c0s,b02,b0f,Nat.reduceEqDiff,nF9];obtain rfl:=sI9 hm1;obtain rfl:=hb3 _ rfl
   try dsimp only at hm0
   exact J2  _ _  hm0
theorem C0i (hf:Has O "newel/ways.Check" x_ways_Check) (c15:B8j O) (C0k:B96 O):B94 O:=by
 intro s r hm0;unfold B9i at hm0;refine b1i hf rfl (b0a (.agg _ (b0a (b0e _) (b0a (b0c fun a _=>c82 a) (b0a (b0c fun a _=>b1t a) b0j)))) b0j) (b0e _) ?_;refine b1c (fun t h=>t 0 = .agg [I s.Places,.fs 7 (List.map z9o s.Passages),.fs 1 (List.map eI s.Exits)]) rfl fun t h s0=>?_;simp only [x_ways_Check];apply b0b;intro K hK;simp only [go_sem,s0];apply hK;refine b0v ?_;refine b2p (fun t h=>t 1 = .fp [I s.Places,.fs 7 (List.map z9o s.Passages),.fs 1 (List.map eI s.Exits)] 0/\t 18=B ((!(b53 s.Places 1 10)) || (decide (24<(List.length s.Passages:Int))))) (fun K hK=>?_) ?_
 ·simp only [go_sem];refine b01 (c15 s.Places 1 10) ?_;simp only [go_sem];refine b0k (fun hg1=>?_) (fun hg1=>?_)
  ·simp only [go_sem,hg1];exact hK _ _ ⟨(by first|(simp only [go_sem,hg1,lA9,mA9]; done)|rfl),(by first|(simp only [go_sem,hg1,lA9,mA9]; done)|rfl)⟩
  ·simp only [go_sem,hg1];exact hK _ _ ⟨(by first|(simp only [go_sem,hg1,lA9,mA9]; done)|rfl),(by first|(simp only [go_sem,hg1,lA9,mA9]; done)|rfl)⟩
 ·rintro t h ⟨s1,s18⟩;refine b0i fun K2 hK2=>?_;simp only [go_sem,s18];refine b0k (fun hc3=>?_) (fun hc3=>?_)
  ·rw [b0r hc3] at hm0;apply b0b;intro K hK;simp only [go_sem];apply hK;simp only [b0x,b1p,b2e,b0y];obtain rfl:=sI9 hm0;exact b04 vc9 (b0e _)
  ·rw [b0q hc3] at hm0;simp only [b0s,b02,b0f];refine hK2 _ _ ?_;apply b0b;intro K hK;simp only [go_sem];refine g0d (O:=O) (e:=List.map (eM vI vI) ([]:List (Int × Int))) rfl ?_;simp only [go_sem];apply hK;refine b0v ?_;apply b0b;intro K hK;simp only [go_sem,s1];apply hK;refine b0i fun K4 hK4=>?_
   have J5:∀ (t:Slots) (h:Heap),t 1 = .fp [I s.Places,.fs 7 (List.map z9o s.Passages),.fs 1 (List.map eI s.Exits)] 0->B9l s=some r->K4 t h:=by
    intro t h s1 hm0;refine hK4 _ _ ?_;unfold B9l at hm0;apply b0b;intro K hK;simp only [go_sem];apply hK;refine b0v ?_;apply b0b;intro K hK;simp only [go_sem,s1];apply hK;refine b0i fun K6 hK6=>?_
    have J7:∀ (t:Slots) (h:Heap),C0u=some r->K6 t h:=by
     intro t h hm0;refine hK6 _ _ ?_;unfold C0u at hm0;apply b0b;intro K hK;simp only [go_sem];apply hK;simp only [b0x,b1p,b2e,b0y];obtain rfl:=sI9 hm0;exact b04 vc9 (b0e _)
    simp only [b0u];obtain ⟨b8,hl8,hm0⟩:=b0g hm0;refine b1j hl8 (fun|(last_6,x_51),t,h=>t 1 = .fp [I s.Places,.fs 7 (List.map z9o s.Passages),.fs 1 (List.map eI s.Exits)] 0/\t 6=I last_6/\t 49 = .fs 1 (List.map eI s.Exits)/\t 50=I (List.length s.Exits:Int)/\t 51=I x_51) ?_ ?_
    ·exact ⟨s1,va9,va9,va9,va9⟩
    ·rintro ⟨last_6,x_51⟩ o t h ⟨s1,s6,s49,s50,s51⟩ hm1 hb8;simp only [B9k] at hm1;rw [C1g];apply b0b;intro K hK;simp only [go_sem,s50,s51];apply hK;refine b0i fun K9 hK9=>?_;simp only [go_sem];refine b0k (fun hc10=>?_) (fun hc10=>?_)
     ·rw [b0r hc10] at hm1;simp only [b0s,b02,b0f];refine hK9 _ _ ?_;refine b0i fun K11 hK11=>?_;simp only [b0u];obtain ⟨x13,h_x13,hm1⟩:=b0g hm1;have h_x130:=b05 h_x13;have h_x131:=b06 h_x13;apply b0b;intro K hK;simp only [go_sem,s49,s51,b08 h_x13,b3n h_x13,h_x130,h_x131];apply hK;refine b0v ?_;apply b0b;intro K hK;simp only [go_sem,s1,s6];refine b01 (c15 x13 (wr (last_6+1)) (wr (s.Places - 1))) ?_;simp only [go_sem,s1,s6];apply hK;refine b0i fun K14 hK14=>?_;simp only [go_sem];refine b0k (fun hc15=>?_) (fun hc15=>?_)
      ·rw [b0r hc15] at hm1;apply b0b;intro K hK;simp only [go_sem];apply hK;simp only [b0x,b1p,b2e,b0y];obtain rfl:=sI9 hm1;obtain rfl:=hb8 _ rfl
       try dsimp only at hm0
       obtain rfl:=sI9 hm0;exact b04 vc9 (b0e _)
      ·rw [b0q hc15] at hm1;simp only [b0s,b02,b0f];refine hK14 _ _ ?_;apply b03;intro K hK;simp only [go_sem];apply hK;simp only [b02,b0f];refine hK11 _ _ ?_;apply b03;intro K hK;simp only [go_sem,s51];apply hK;simp only [b02,b0f];obtain rfl:=sI9 hm1;refine ⟨_,rfl,?_⟩;exact ⟨s1,(by first|(simp only [go_sem,s6,lA9,mA9]; done)|rfl),s49,s50,(by first|(simp only [go_sem,s51,lA9,mA9]; done)|rfl)⟩
     ·rw [b0q hc10] at hm1;simp only [b09,b1b,b1a,c0s,b02,b0f,Nat.reduceEqDiff,nF9];obtain rfl:=sI9 hm1;obtain rfl:=hb8 _ rfl
      try dsimp only at hm0
      exact J7  _ _  hm0
   simp only [b0u];obtain ⟨b17,hl17,hm0⟩:=b0g hm0;refine b1j hl17 (fun|(machines_3,x_23),t,h=>∃ i3:Nat,t 1 = .fp [I s.Places,.fs 7 (List.map z9o s.Passages),.fs 1 (List.map eI s.Exits)] 0/\t 3 = .mp i3/\t 21 = .fs 7 (List.map z9o s.Passages)/\t 22=I (List.length s.Passages:Int)/\t 23=I x_23/\h.ob i3=some (0,List.map (eM vI vI) machines_3)/\i3<h.nx) ?_ ?_
   ·exact ⟨h.nx,s1,va9,va9,va9,va9,vc9,vg9⟩
   ·rintro ⟨machines_3,x_23⟩ o t h ⟨i3,s1,s3,s21,s22,s23,Q3,Q0⟩ hm1 hb17;simp only [B9j] at hm1;rw [C1f];apply b0b;intro K hK;simp only [go_sem,s22,s23,Q0];apply hK;refine b0i fun K18 hK18=>?_;simp only [go_sem];refine b0k (fun hc19=>?_) (fun hc19=>?_)
    ·rw [b0r hc19] at hm1;simp only [b0s,b02,b0f];refine hK18 _ _ ?_;refine b0i fun K20 hK20=>?_;simp only [b0u];obtain ⟨x22,h_x22,hm1⟩:=b0g hm1;have h_x220:=b05 h_x22;have h_x221:=b06 h_x22;apply b0b;intro K hK;simp only [go_sem,s21,s23,Q0,b08 h_x22,b3n h_x22,h_x220,h_x221];apply hK;refine b0v ?_;apply b0b;intro K hK;simp only [go_sem,s1,Q0];refine b01 (C0k x22 s.Places) ?_;simp only [go_sem,s1,Q0];apply hK;refine b0i fun K23 hK23=>?_;simp only [go_sem];refine b0k (fun hc24=>?_) (fun hc24=>?_)
     ·rw [b0r hc24] at hm1;apply b0b;intro K hK;simp only [go_sem,Q0];apply hK;simp only [b0x,b1p,b2e,b0y];obtain rfl:=sI9 hm1;obtain rfl:=hb17 _ rfl
      try dsimp only at hm0
      obtain rfl:=sI9 hm0;exact b04 (by simp only [go_sem,Q3,Q0,lA9,mA9]) (b0e _)
     ·rw [b0q hc24] at hm1;simp only [b0s,b02,b0f];refine hK23 _ _ ?_;apply b0b;intro K hK;simp only [go_sem,s3,Q3,Q0];refine g0c (O:=O) (fk:=vI) (fv:=vI) (l:=machines_3) (x:=x22.Machine) (z:=0) u8y C0m ?_ ?_ ?_
      ·rfl
      ·simp only [go_sem,Q3,Q0,lA9,mA9]
      simp only [go_sem,s3,Q3,Q0];refine d2i (O:=O) (fk:=vI) (fv:=vI) (l:=machines_3) (x:=x22.Machine) (v:=(wr ((b2w machines_3 x22.Machine 0)+1))) g1t C0m ?_ ?_ ?_
      ·rfl
      ·simp only [go_sem,Q3,Q0,lA9,mA9]
      simp only [go_sem,s3,Q3,Q0];apply hK;refine b2p (fun t h=>t 1 = .fp [I s.Places,.fs 7 (List.map z9o s.Passages),.fs 1 (List.map eI s.Exits)] 0/\t 3 = .mp i3/\t 21 = .fs 7 (List.map z9o s.Passages)/\t 22=I (List.length s.Passages:Int)/\t 23=I x_23/\t 46=B ((decide (0<=x22.Machine)) && (decide (1<(b2w (b3w machines_3 x22.Machine (wr ((b2w machines_3 x22.Machine 0)+1))) x22.Machine 0))))/\h.ob i3=some (0,List.map (eM vI vI) (b3w machines_3 x22.Machine (wr ((b2w machines_3 x22.Machine 0)+1))))/\i3<h.nx) (fun K hK=>?_) ?_
      ·simp only [go_sem,s3,Q3,Q0];refine b0k (fun hg25=>?_) (fun hg25=>?_)
       ·simp only [go_sem,s3,Q3,Q0,hg25];refine g0c (O:=O) (fk:=vI) (fv:=vI) (l:=(b3w machines_3 x22.Machine (wr ((b2w machines_3 x22.Machine 0)+1)))) (x:=x22.Machine) (z:=0) u8y C0m ?_ ?_ ?_
        ·rfl
        ·simp only [go_sem,hg25,Q3,Q0,lA9,mA9]
        simp only [go_sem,s3,Q3,Q0,hg25];exact hK _ _ ⟨s1,s3,s21,s22,s23,(by first|(simp only [go_sem,hg25,lA9,mA9]; done)|rfl),(by simp only [go_sem,Q3,Q0,hg25,lA9,mA9]),(by simp only [go_sem,Q0])⟩
       ·simp only [go_sem,s3,Q3,Q0,hg25];exact hK _ _ ⟨s1,s3,s21,s22,s23,(by first|(simp only [go_sem,hg25,lA9,mA9]; done)|rfl),(by simp only [go_sem,Q3,Q0,hg25,lA9,mA9]),(by simp only [go_sem,Q0])⟩
      ·rintro t h ⟨s1,s3,s21,s22,s23,s46,Q3,Q0⟩;simp only [go_sem,s46];refine b0k (fun hc26=>?_) (fun hc26=>?_)
       ·rw [b0r hc26] at hm1;apply b0b;intro K hK;simp only [go_sem,Q0];apply hK;simp only [b0x,b1p,b2e,b0y];obtain rfl:=sI9 hm1;obtain rfl:=hb17 _ rfl
        try dsimp only at hm0
        obtain rfl:=sI9 hm0;exact b04 (by simp only [go_sem,Q3,Q0,lA9,mA9]) (b0e _)
       ·rw [b0q hc26] at hm1;simp only [b0s,b02,b0f];refine hK20 _ _ ?_;apply b03;intro K hK;simp only [go_sem,s23,Q0];apply hK;simp only [b02,b0f];obtain rfl:=sI9 hm1;refine ⟨_,rfl,?_⟩;exact ⟨i3,s1,s3,s21,s22,(by first|(simp only [go_sem,s23,lA9,mA9]; done)|rfl),Q3,Q0⟩
    ·rw [b0q hc19] at hm1;simp only [b09,b1b,b1a,c0s,b02,b0f,Nat.reduceEqDiff,nF9];obtain rfl:=sI9 hm1;obtain rfl:=hb17 _ rfl
     try dsimp only at hm0
     exact J5  _ _ s1 hm0
theorem N2b (hf:Has O "newel/ways.crowd" x_ways_crowd) (c15:B8j O):N1u O:=by
 intro s people r hm0;unfold N06 at hm0;refine b1i hf rfl (b0a (.agg _ (b0a (b0e _) (b0a (b0c fun a _=>c82 a) (b0a (b0c fun a _=>b1t a) b0j)))) (b0a (b0c fun a _=>b1t a) b0j)) (b0e _) ?_;refine b1c (fun t h=>t 0 = .agg [I s.Places,.fs 7 (List.map z9o s.Passages),.fs 1 (List.map eI s.Exits)]/\t 1 = .fs 1 (List.map eI people)) ⟨rfl,rfl⟩ fun t h ⟨s0,s1⟩=>?_;simp only [x_ways_crowd];apply b0b;intro K hK;simp only [go_sem,s0];apply hK;refine b0v ?_;apply b0b;intro K hK;simp only [go_sem,s1];apply hK;refine b0i fun K1 hK1=>?_
 have J2:∀ (t:Slots) (h:Heap),t 1 = .fs 1 (List.map eI people)->t 2 = .fp [I s.Places,.fs 7 (List.map z9o s.Passages),.fs 1 (List.map eI s.Exits)] 0->N2v s people=some r->K1 t h:=by
  intro t h s1 s2 hm0;refine hK1 _ _ ?_;unfold N2v at hm0;apply b0b;intro K hK;simp only [go_sem,s1,s2];apply hK;simp only [b0x,b1p,b2e,b0y];obtain rfl:=sI9 hm0;exact b04 vc9 (b0e _)
 simp only [b0u];obtain ⟨b3,hl3,hm0⟩:=b0g hm0;refine b1j hl3 (fun|x_9,t,h=>t 1 = .fs 1 (List.map eI people)/\t 2 = .fp [I s.Places,.fs 7 (List.map z9o s.Passages),.fs 1 (List.map eI s.Exits)] 0/\t 7 = .fs 1 (List.map eI people)/\t 8=I (List.length people:Int)/\t 9=I x_9) ?_ ?_
 ·exact ⟨s1,va9,va9,va9,va9⟩
 ·rintro x_9 o t h ⟨s1,s2,s7,s8,s9⟩ hm1 hb3;simp only [N0c] at hm1;rw [N3x];apply b0b;intro K hK;simp only [go_sem,s8,s9];apply hK;refine b0i fun K4 hK4=>?_;simp only [go_sem];refine b0k (fun hc5=>?_) (fun hc5=>?_)
  ·rw [b0r hc5] at hm1;simp only [b0s,b02,b0f];refine hK4 _ _ ?_;refine b0i fun K6 hK6=>?_;simp only [b0u];obtain ⟨x8,h_x8,hm1⟩:=b0g hm1;have h_x80:=b05 h_x8;have h_x81:=b06 h_x8;apply b0b;intro K hK;simp only [go_sem,s7,s9,b08 h_x8,b3n h_x8,h_x80,h_x81];apply hK;apply b0b;intro K hK;simp only [go_sem];refine b01 (c15 x8 0 1000) ?_;simp only [go_sem];apply hK;simp only [go_sem];refine b0k (fun hc9=>?_) (fun hc9=>?_)
   ·rw [b0r hc9] at hm1;apply b0b;intro K hK;simp only [go_sem];apply hK;simp only [b0x,b1p,b2e,b0y];obtain rfl:=sI9 hm1;obtain rfl:=hb3 _ rfl
    try dsimp only at hm0
    obtain rfl:=sI9 hm0;exact b04 vc9 (b0e _)
   ·rw [b0q hc9] at hm1;simp only [b0s,b02,b0f];refine hK6 _ _ ?_;apply b03;intro K hK;simp only [go_sem,s9];apply hK;simp only [b02,b0f];obtain rfl:=sI9 hm1;refine ⟨_,rfl,?_⟩;exact ⟨s1,s2,s7,s8,(by first|(simp only [go_sem,s9,lA9,mA9]; done)|rfl)⟩
  ·rw [b0q hc5] at hm1;simp only [b09,b1b,b1a,c0s,b02,b0f,Nat.reduceEqDiff,nF9];obtain rfl:=sI9 hm1;obtain rfl:=hb3 _ rfl
   try dsimp only at hm0
   exact J2  _ _ s1 s2 hm0
theorem N2c (hf:Has O "newel/ways.leaving" x_ways_leaving) (C0i:B94 O) (c15:B8j O) (N2b:N1u O):N1c O:=by
 intro s out people ticks r hm0;unfold N07 at hm0;refine b1i hf rfl (b0a (.agg _ (b0a (b0e _) (b0a (b0c fun a _=>c82 a) (b0a (b0c fun a _=>b1t a) b0j)))) (b0a (b0e _) (b0a (b0c fun a _=>b1t a) (b0a (b0e _) b0j)))) (b0e _) ?_;refine b1c (fun t h=>t 0 = .agg [I s.Places,.fs 7 (List.map z9o s.Passages),.fs 1 (List.map eI s.Exits)]/\t 1=I out/\t 2 = .fs 1 (List.map eI people)/\t 3=I ticks) ⟨rfl,rfl,rfl,rfl⟩ fun t h ⟨s0,s1,s2,s3⟩=>?_;simp only [x_ways_leaving];apply b0b;intro K hK;simp only [go_sem,s0];apply hK;refine b0v ?_;obtain ⟨y2,h_y2,hm0⟩:=b0g hm0;apply b0b;intro K hK;simp only [go_sem];refine b01 (C0i s _ h_y2) ?_;simp only [go_sem];apply hK;refine b0v ?_;apply b0b;intro K hK;simp only [go_sem];apply hK;refine b0i fun K3 hK3=>?_;simp only [go_sem];refine b0k (fun hc4=>?_) (fun hc4=>?_)
 ·rw [b0r hc4] at hm0;apply b0b;intro K hK;simp only [go_sem];apply hK;simp only [b0x,b1p,b2e,b0y];obtain rfl:=sI9 hm0;exact b04 vc9 (b0e _)
 ·rw [b0q hc4] at hm0;simp only [b0s,b02,b0f];refine hK3 _ _ ?_;refine b0v ?_;obtain ⟨c8,h_c8,hm0⟩:=b0g hm0;refine b2p (fun t h=>t 28=B (c8 || (!(b53 ticks 0 60)))) (fun K hK=>?_) ?_
  ·simp only [go_sem,s1,s2,s3];refine b01 (c15 out 0 4095) ?_;simp only [go_sem,s1,s2,s3];refine b0k (fun hg9=>?_) (fun hg9=>?_)
   ·simp only [hg9,Bool.not_true,Bool.not_false,eq_self,if_true,if_false,Bool.true_or,Bool.or_true,Bool.false_or,Bool.or_false,Bool.true_and,Bool.and_true,Bool.false_and,Bool.and_false,fT9] at h_c8;obtain rfl:=sI9 h_c8;simp only [go_sem,s1,s2,s3,hg9];exact hK _ _ (by first|(simp only [go_sem,hg9,lA9,mA9]; done)|rfl)
   ·simp only [hg9,Bool.not_true,Bool.not_false,eq_self,if_true,if_false,Bool.true_or,Bool.or_true,Bool.false_or,Bool.or_false,Bool.true_and,Bool.and_true,Bool.false_and,Bool.and_false,fT9] at h_c8;obtain ⟨y7,h_y7,h_c8⟩:=b0g h_c8;obtain rfl:=sI9 h_c8;simp only [go_sem,s1,s2,s3,hg9];refine b01 (N2b s people _ h_y7) ?_;simp only [go_sem,s1,s2,s3,hg9];refine b0k (fun hg10=>?_) (fun hg10=>?_)
    ·simp only [go_sem,s1,s2,s3,hg9,hg10];exact hK _ _ (by first|(simp only [go_sem,hg9,hg10,lA9,mA9]; done)|rfl)
    ·simp only [go_sem,s1,s2,s3,hg9,hg10];refine b01 (c15 ticks 0 60) ?_;simp only [go_sem,s1,s2,s3,hg9,hg10];exact hK _ _ (by first|(simp only [go_sem,hg9,hg10,lA9,mA9]; done)|rfl)
  ·rintro t h s28;refine b0i fun K11 hK11=>?_;simp only [go_sem,s28];refine b0k (fun hc12=>?_) (fun hc12=>?_)
   ·rw [b0r hc12] at hm0;apply b0b;intro K hK;simp only [go_sem];apply hK;simp only [b0x,b1p,b2e,b0y];obtain rfl:=sI9 hm0;exact b04 vc9 (b0e _)
   ·rw [b0q hc12] at hm0;simp only [b0s,b02,b0f];refine hK11 _ _ ?_;apply b0b;intro K hK;simp only [go_sem];apply hK;simp only [b0x,b1p,b2e,b0y];obtain rfl:=sI9 hm0;exact b04 vc9 (b0e _)
theorem C0k (hf:Has O "newel/ways.passage" x_ways_passage) (c15:B8j O):B96 O:=by
 intro p places;generalize hm0:B80 p places=r;unfold B80 at hm0;refine b1i hf rfl (b0a (.agg _ (b0a (b0e _) (b0a (b0e _) (b0a (b0e _) (b0a (b0e _) (b0a (b0e _) (b0a (b0e _) (b0a (b0e _) b0j)))))))) (b0a (b0e _) b0j)) (b0e _) ?_;refine b1c (fun t h=>t 0 = .agg [I p.A,I p.B,I p.Kind,I p.Ticks,I p.Wide,I p.Machine,I p.Still]/\t 1=I places) ⟨rfl,rfl⟩ fun t h ⟨s0,s1⟩=>?_;simp only [x_ways_passage];apply b0b;intro K hK;simp only [go_sem,s0];apply hK;refine b0v ?_;refine b2p (fun t h=>t 2 = .fp [I p.A,I p.B,I p.Kind,I p.Ticks,I p.Wide,I p.Machine,I p.Still] 0/\t 37=B (((((!(b53 p.A 0 (wr (places - 1)))) || (!(b53 p.B 0 (wr (places - 1))))) || (decide (p.A=p.B))) || (!(b53 p.Ticks 1 20))) || (!(b53 p.Wide 1 50)))) (fun K hK=>?_) ?_
 ·simp only [go_sem,s1];refine b01 (c15 p.A 0 (wr (places - 1))) ?_;simp only [go_sem,s1];refine b0k (fun hg1=>?_) (fun hg1=>?_)
  ·simp only [go_sem,s1,hg1];exact hK _ _ ⟨(by first|(simp only [go_sem,hg1,lA9,mA9]; done)|rfl),(by first|(simp only [go_sem,hg1,lA9,mA9]; done)|rfl)⟩
  ·simp only [go_sem,s1,hg1];refine b01 (c15 p.B 0 (wr (places - 1))) ?_;simp only [go_sem,s1,hg1];refine b0k (fun hg2=>?_) (fun hg2=>?_)
   ·simp only [go_sem,s1,hg1,hg2];exact hK _ _ ⟨(by first|(simp only [go_sem,hg1,hg2,lA9,mA9]; done)|rfl),(by first|(simp only [go_sem,hg1,hg2,lA9,mA9]; done)|rfl)⟩
   ·simp only [go_sem,s1,hg1,hg2];refine b0k (fun hg3=>?_) (fun hg3=>?_)
    ·simp only [go_sem,s1,hg1,hg2,hg3];exact hK _ _ ⟨(by first|(simp only [go_sem,hg1,hg2,hg3,lA9,mA9]; done)|rfl),(by first|(simp only [go_sem,hg1,hg2,hg3,lA9,mA9]; done)|rfl)⟩
    ·simp only [go_sem,s1,hg1,hg2,hg3];refine b01 (c15 p.Ticks 1 20) ?_;simp only [go_sem,s1,hg1,hg2,hg3];refine b0k (fun hg4=>?_) (fun hg4=>?_)
     ·simp only [go_sem,s1,hg1,hg2,hg3,hg4];exact hK _ _ ⟨(by first|(simp only [go_sem,hg1,hg2,hg3,hg4,lA9,mA9]; done)|rfl),(by first|(simp only [go_sem,hg1,hg2,hg3,hg4,lA9,mA9]; done)|rfl)⟩
     ·simp only [go_sem,s1,hg1,hg2,hg3,hg4];refine b01 (c15 p.Wide 1 50) ?_;simp only [go_sem,s1,hg1,hg2,hg3,hg4];exact hK _ _ ⟨(by first|(simp only [go_sem,hg1,hg2,hg3,hg4,lA9,mA9]; done)|rfl),(by first|(simp only [go_sem,hg1,hg2,hg3,hg4,lA9,mA9]; done)|rfl)⟩
 ·rintro t h ⟨s2,s37⟩;refine b0i fun K5 hK5=>?_;simp only [go_sem,s37];refine b0k (fun hc6=>?_) (fun hc6=>?_)
  ·rw [b0r hc6] at hm0;apply b0b;intro K hK;simp only [go_sem];apply hK;simp only [b0x,b1p,b2e,b0y];obtain rfl:=hm0;exact b04 vc9 (b0e _)
  ·rw [b0q hc6] at hm0;simp only [b0s,b02,b0f];refine hK5 _ _ ?_;refine b0v ?_;apply b0b;intro K hK;simp only [go_sem,s2];apply hK;refine b0i fun K7 hK7=>?_;simp only [b0u];refine b0v ?_;apply b0b;intro K hK;simp only [go_sem];apply hK;refine b0i fun K8 hK8=>?_
   have J9:∀ (x_40:Bool) (t:Slots) (h:Heap),t 2 = .fp [I p.A,I p.B,I p.Kind,I p.Ticks,I p.Wide,I p.Machine,I p.Still] 0->t 39=I p.Kind->t 40=B x_40->B81 p x_40=r->K8 t h:=by
    intro x_40 t h s2 s39 s40 hm0;refine hK8 _ _ ?_;unfold B81 at hm0;simp only [go_sem,s40];refine b0k (fun hc10=>?_) (fun hc10=>?_)
    ·rw [b0r hc10] at hm0;refine b2p (fun t h=>t 4=B ((decide (p.Machine=(-1))) && (decide (p.Still=0)))) (fun K hK=>?_) ?_
     ·simp only [go_sem,s2];refine b0k (fun hg11=>?_) (fun hg11=>?_)
      ·simp only [go_sem,s2,hg11];exact hK _ _ (by first|(simp only [go_sem,hg11,lA9,mA9]; done)|rfl)
      ·simp only [go_sem,s2,hg11];exact hK _ _ (by first|(simp only [go_sem,hg11,lA9,mA9]; done)|rfl)
     ·rintro t h s4;simp only [b0x,b1p,b2e,b0y];obtain rfl:=hm0;exact b04 (by simp only [go_sem,s4,lA9,mA9]) (b0e _)
    ·rw [b0q hc10] at hm0;apply b0b;intro K hK;simp only [go_sem,s39];apply hK;simp only [go_sem];refine b0k (fun hc12=>?_) (fun hc12=>?_)
     ·rw [b0r hc12] at hm0;refine b2p (fun t h=>t 4=B ((b53 p.Machine 0 11) && (b53 p.Still 1 20))) (fun K hK=>?_) ?_
      ·simp only [go_sem,s2];refine b01 (c15 p.Machine 0 11) ?_;simp only [go_sem,s2];refine b0k (fun hg13=>?_) (fun hg13=>?_)
       ·simp only [go_sem,s2,hg13];refine b01 (c15 p.Still 1 20) ?_;simp only [go_sem,s2,hg13];exact hK _ _ (by first|(simp only [go_sem,hg13,lA9,mA9]; done)|rfl)
       ·simp only [go_sem,s2,hg13];exact hK _ _ (by first|(simp only [go_sem,hg13,lA9,mA9]; done)|rfl)
      ·rintro t h s4;simp only [b0x,b1p,b2e,b0y];obtain rfl:=hm0;exact b04 (by simp only [go_sem,s4,lA9,mA9]) (b0e _)
     ·rw [b0q hc12] at hm0;apply b0b;intro K hK;simp only [go_sem,s39];apply hK;simp only [go_sem];refine b0k (fun hc14=>?_) (fun hc14=>?_)
      ·rw [b0r hc14] at hm0;refine b2p (fun t h=>t 4=B ((b53 p.Machine 0 11) && (decide (p.Still=0)))) (fun K hK=>?_) ?_
       ·simp only [go_sem,s2];refine b01 (c15 p.Machine 0 11) ?_;simp only [go_sem,s2];refine b0k (fun hg15=>?_) (fun hg15=>?_)
        ·simp only [go_sem,s2,hg15];exact hK _ _ (by first|(simp only [go_sem,hg15,lA9,mA9]; done)|rfl)
        ·simp only [go_sem,s2,hg15];exact hK _ _ (by first|(simp only [go_sem,hg15,lA9,mA9]; done)|rfl)
       ·rintro t h s4;simp only [b0x,b1p,b2e,b0y];obtain rfl:=hm0;exact b04 (by simp only [go_sem,s4,lA9,mA9]) (b0e _)
      ·rw [b0q hc14] at hm0;simp only [b0s,b02,b0f];refine hK7 _ _ ?_;apply b0b;intro K hK;simp only [go_sem];apply hK;simp only [b0x,b1p,b2e,b0y];obtain rfl:=hm0;exact b04 vc9 (b0e _)
   simp only [go_sem];refine b0k (fun hc16=>?_) (fun hc16=>?_)
   ·rw [b0r hc16] at hm0;simp only [b0s,b02,b0f];exact J9 (decide (p.Kind=1)) _ _ s2 va9 va9 hm0
   ·rw [b0q hc16] at hm0;apply b0b;intro K hK;simp only [go_sem];apply hK;simp only [go_sem];refine b0k (fun hc17=>?_) (fun hc17=>?_)
    ·rw [b0r hc17] at hm0;simp only [b0s,b02,b0f];exact J9 (decide (p.Kind=2)) _ _ s2 va9 va9 hm0
    ·rw [b0q hc17] at hm0;apply b03;intro K hK;simp only [go_sem];apply hK;simp only [b02,b0f];exact J9 (decide (p.Kind=5)) _ _ s2 va9 va9 hm0
theorem P23 (hf:Has O "newel/ways.sum" x_ways_sum):P16 O:=by
 intro people r hm0;unfold P15 at hm0;refine b1i hf rfl (b0a (b0c fun a _=>b1t a) b0j) (b0e _) ?_;refine b1c (fun t h=>t 0 = .fs 1 (List.map eI people)) rfl fun t h s0=>?_;simp only [x_ways_sum];apply b0b;intro K hK;simp only [go_sem];apply hK;apply b0b;intro K hK;simp only [go_sem];apply hK;refine b0v ?_;apply b0b;intro K hK;simp only [go_sem,s0];apply hK;refine b0i fun K1 hK1=>?_
 have J2:∀ (all_3:Int) (t:Slots) (h:Heap),t 3=I all_3->P27 all_3=some r->K1 t h:=by
  intro all_3 t h s3 hm0;refine hK1 _ _ ?_;unfold P27 at hm0;apply b0b;intro K hK;simp only [go_sem,s3];apply hK;simp only [b0x,b1p,b2e,b0y];obtain rfl:=sI9 hm0;exact b04 vc9 (b0e _)
 simp only [b0u];obtain ⟨b3,hl3,hm0⟩:=b0g hm0;refine b1j hl3 (fun|(all_3,x_8),t,h=>t 3=I all_3/\t 6 = .fs 1 (List.map eI people)/\t 7=I (List.length people:Int)/\t 8=I x_8) ?_ ?_
 ·exact ⟨va9,va9,va9,va9⟩
 ·rintro ⟨all_3,x_8⟩ o t h ⟨s3,s6,s7,s8⟩ hm1 hb3;simp only [P1r] at hm1;rw [P32];apply b0b;intro K hK;simp only [go_sem,s7,s8];apply hK;refine b0i fun K4 hK4=>?_;simp only [go_sem];refine b0k (fun hc5=>?_) (fun hc5=>?_)
  ·rw [b0r hc5] at hm1;simp only [b0s,b02,b0f];refine hK4 _ _ ?_;refine b0i fun K6 hK6=>?_;simp only [b0u];obtain ⟨x8,h_x8,hm1⟩:=b0g hm1;have h_x80:=b05 h_x8;have h_x81:=b06 h_x8;apply b0b;intro K hK;simp only [go_sem,s6,s8,b08 h_x8,b3n h_x8,h_x80,h_x81];apply hK;apply b03;intro K hK;simp only [go_sem,s3];apply hK;simp only [b02,b0f];refine hK6 _ _ ?_;apply b03;intro K hK;simp only [go_sem,s8];apply hK;simp only [b02,b0f];obtain rfl:=sI9 hm1;refine ⟨_,rfl,?_⟩;exact ⟨(by first|(simp only [go_sem,s3,lA9,mA9]; done)|rfl),s6,s7,(by first|(simp only [go_sem,s8,lA9,mA9]; done)|rfl)⟩
  ·rw [b0q hc5] at hm1;simp only [b09,b1b,b1a,c0s,b02,b0f,Nat.reduceEqDiff,nF9];obtain rfl:=sI9 hm1;obtain rfl:=hb3 _ rfl
   try dsimp only at hm0
   exact J2 all_3 _ _ s3 hm0
theorem c15 (hf:Has O "newel/ways.within" x_ways_within):B8j O:=by
 intro n low high;generalize hm0:b53 n low high=r;unfold b53 at hm0;refine b1i hf rfl (b0a (b0e _) (b0a (b0e _) (b0a (b0e _) b0j))) (b0e _) ?_;refine b1c (fun t h=>t 0=I n/\t 1=I low/\t 2=I high) ⟨rfl,rfl,rfl⟩ fun t h ⟨s0,s1,s2⟩=>?_;simp only [x_ways_within];apply b0b;intro K hK;simp only [go_sem];apply hK;refine b2p (fun t h=>t 6=B ((decide (low<=n)) && (decide (n<=high)))) (fun K hK=>?_) ?_
 ·simp only [go_sem,s0,s1,s2];refine b0k (fun hg1=>?_) (fun hg1=>?_)
  ·simp only [go_sem,s0,s1,s2,hg1];exact hK _ _ (by first|(simp only [go_sem,hg1,lA9,mA9]; done)|rfl)
  ·simp only [go_sem,s0,s1,s2,hg1];exact hK _ _ (by first|(simp only [go_sem,hg1,lA9,mA9]; done)|rfl)
 ·rintro t h s6;simp only [b0x,b1p,b2e,b0y];obtain rfl:=hm0;exact b04 (by simp only [go_sem,s6,lA9,mA9]) (b0e _)
end Go.Nw.EM
