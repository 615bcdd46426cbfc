/- That the texts make what their models say: printed by a program. -/
import Derived.Test.YtinmifhfkkjccaaDoorYM
set_option linter.all false
namespace Go.Nw.YM
open Go.Nw.Tp5
set_option maxHeartbeats 4000000
variable {O:Orac} [MapsOk O]
theorem L6b (hf:Has O "newel/newelref09.Fits" x_r09_Fits) (L5f:L52 O) (L7e:L6u O):L6s O:=by
 intro s edges p r hm0;unfold L5c at hm0;refine b1i hf rfl (b0a (.agg _ (b0a (b0e _) (b0a (b0e _) (b0a (b0e _) (b0a (b0c fun a _=>K64 a) b0j))))) (b0a (.agg _ (b0a (b0e _) (b0a (b0e _) (b0a (b0e _) b0j)))) (b0a (.agg _ (b0a (b0e _) (b0a (b0e _) (b0a (b0e _) (b0a (b0e _) b0j))))) b0j))) (.tup _ (b0a (b0e _) (b0a (b0e _) b0j))) ?_;refine b1c (fun t h=>t 0 = .agg [I s.Size.1,I s.Size.2.1,I s.Size.2.2,.fs 3 (List.map b70 s.Walls)]/\t 1 = .agg [I edges.1,I edges.2.1,I edges.2.2]/\t 2 = .agg [I p.At.1,I p.At.2.1,I p.At.2.2,I p.Turn]) ⟨rfl,rfl,rfl⟩ fun t h ⟨s0,s1,s2⟩=>?_;simp only [x_r09_Fits];apply b0b;intro K hK;simp only [go_sem,s0,s1,s2];apply hK;refine b0v ?_;obtain ⟨y2,h_y2,hm0⟩:=b0g hm0;apply b0b;intro K hK;simp only [go_sem];refine b01 (L5f s edges _ h_y2) ?_;simp only [go_sem];apply hK;refine b0v ?_;apply b0b;intro K hK;simp only [go_sem];apply hK;refine b0i fun K3 hK3=>?_;simp only [go_sem];refine b0k (fun hc4=>?_) (fun hc4=>?_)
 ·rw [b0r hc4] at hm0;apply b0b;intro K hK;simp only [go_sem];apply hK;simp only [b0x,b1p,b2e,b0y];obtain rfl:=sI9 hm0;exact d1m vb9 vb9 (b0e _) (b0e _)
 ·rw [b0q hc4] at hm0;simp only [b0s,b02,b0f];refine hK3 _ _ ?_;obtain ⟨y6,h_y6,hm0⟩:=b0g hm0;apply b0b;intro K hK;simp only [go_sem];refine b01 (L7e s edges p _ h_y6) ?_;simp only [go_sem];apply hK;simp only [b0x,b1p,b2e,b0y];obtain rfl:=sI9 hm0;exact d1m vb9 vb9 (b0e _) (b0e _)
theorem L7e (hf:Has O "newel/newelref09.fits" x_r09_fits) (L4b:L40 O) (L7d:L6t O) (L7f:L6v O):L6u O:=by
 intro s edges p r hm0;unfold L6h at hm0;refine b1i hf rfl (b0a (.agg _ (b0a (b0e _) (b0a (b0e _) (b0a (b0e _) (b0a (b0c fun a _=>K64 a) b0j))))) (b0a (.agg _ (b0a (b0e _) (b0a (b0e _) (b0a (b0e _) b0j)))) (b0a (.agg _ (b0a (b0e _) (b0a (b0e _) (b0a (b0e _) (b0a (b0e _) b0j))))) b0j))) (b0e _) ?_;refine b1c (fun t h=>t 0 = .agg [I s.Size.1,I s.Size.2.1,I s.Size.2.2,.fs 3 (List.map b70 s.Walls)]/\t 1 = .agg [I edges.1,I edges.2.1,I edges.2.2]/\t 2 = .agg [I p.At.1,I p.At.2.1,I p.At.2.2,I p.Turn]) ⟨rfl,rfl,rfl⟩ fun t h ⟨s0,s1,s2⟩=>?_;simp only [x_r09_fits];apply b0b;intro K hK;simp only [go_sem,s0,s1,s2];apply hK;obtain ⟨c6,h_c6,hm0⟩:=b0g hm0;refine b2p (fun t h=>t 6=B c6) (fun K hK=>?_) ?_
 ·simp only [go_sem];refine b01 (L4b p.Turn 0 5) ?_;simp only [go_sem];refine b0k (fun hg7=>?_) (fun hg7=>?_)
  ·simp only [hg7,Bool.not_true,Bool.not_false,eq_self,if_true,if_false,Bool.true_or,Bool.or_true,Bool.false_or,Bool.or_false,Bool.true_and,Bool.and_true,Bool.false_and,Bool.and_false,fT9] at h_c6;obtain ⟨y4,h_y4,h_c6⟩:=b0g h_c6;obtain ⟨y5,h_y5,h_c6⟩:=b0g h_c6;obtain rfl:=sI9 h_c6;simp only [go_sem,hg7];refine b01 (L7d edges p.Turn _ h_y4) ?_;simp only [go_sem,hg7];refine b01 (L7f s (p.At.1,p.At.2.1,p.At.2.2) y4 _ h_y5) ?_;simp only [go_sem,hg7];exact hK _ _ (by first|(simp only [go_sem,hg7,lA9,mA9]; done)|rfl)
  ·simp only [hg7,Bool.not_true,Bool.not_false,eq_self,if_true,if_false,Bool.true_or,Bool.or_true,Bool.false_or,Bool.or_false,Bool.true_and,Bool.and_true,Bool.false_and,Bool.and_false,fT9] at h_c6;obtain rfl:=sI9 h_c6;simp only [go_sem,hg7];exact hK _ _ (by first|(simp only [go_sem,hg7,lA9,mA9]; done)|rfl)
 ·rintro t h s6;simp only [b0x,b1p,b2e,b0y];obtain rfl:=sI9 hm0;exact b04 (by simp only [go_sem,s6,lA9,mA9]) (b0e _)
theorem L7f (hf:Has O "newel/newelref09.free" x_r09_free):L6v O:=by
 intro s at_ size r hm0;unfold L5r at hm0;refine b1i hf rfl (b0a (.agg _ (b0a (b0e _) (b0a (b0e _) (b0a (b0e _) (b0a (b0c fun a _=>K64 a) b0j))))) (b0a (.agg _ (b0a (b0e _) (b0a (b0e _) (b0a (b0e _) b0j)))) (b0a (.agg _ (b0a (b0e _) (b0a (b0e _) (b0a (b0e _) b0j)))) b0j))) (b0e _) ?_;refine b1c (fun t h=>t 0 = .agg [I s.Size.1,I s.Size.2.1,I s.Size.2.2,.fs 3 (List.map b70 s.Walls)]/\t 1 = .agg [I at_.1,I at_.2.1,I at_.2.2]/\t 2 = .agg [I size.1,I size.2.1,I size.2.2]) ⟨rfl,rfl,rfl⟩ fun t h ⟨s0,s1,s2⟩=>?_;simp only [x_r09_free];apply b0b;intro K hK;simp only [go_sem,s0,s1,s2];apply hK;refine b0v ?_;apply b0b;intro K hK;simp only [go_sem];apply hK;refine b0i fun K1 hK1=>?_
 have J2:∀ (t:Slots) (h:Heap),t 3 = .fp [I s.Size.1,I s.Size.2.1,I s.Size.2.2,.fs 3 (List.map b70 s.Walls)] 0->t 4 = .fp [I at_.1,I at_.2.1,I at_.2.2] 0->t 5 = .fp [I size.1,I size.2.1,I size.2.2] 0->L6i s at_ size=some r->K1 t h:=by
  intro t h s3 s4 s5 hm0;refine hK1 _ _ ?_;unfold L6i at hm0;refine b0v ?_;apply b0b;intro K hK;simp only [go_sem];apply hK;refine b0i fun K3 hK3=>?_
  have J4:∀ (t:Slots) (h:Heap),L7s=some r->K3 t h:=by
   intro t h hm0;refine hK3 _ _ ?_;unfold L7s at hm0;apply b0b;intro K hK;simp only [go_sem];apply hK;simp only [b0x,b1p,b2e,b0y];obtain rfl:=sI9 hm0;exact b04 vb9 (b0e _)
  simp only [b0u];obtain ⟨b5,hl5,hm0⟩:=b0g hm0;refine b1j hl5 (fun|i_8,t,h=>t 3 = .fp [I s.Size.1,I s.Size.2.1,I s.Size.2.2,.fs 3 (List.map b70 s.Walls)] 0/\t 4 = .fp [I at_.1,I at_.2.1,I at_.2.2] 0/\t 5 = .fp [I size.1,I size.2.1,I size.2.2] 0/\t 8=I i_8) ?_ ?_
  ·exact ⟨s3,s4,s5,va9⟩
  ·rintro i_8 o t h ⟨s3,s4,s5,s8⟩ hm1 hb5;simp only [L5s] at hm1;rw [L9s];refine b0v ?_;apply b0b;intro K hK;simp only [go_sem,s3,s8];apply hK;refine b0i fun K6 hK6=>?_;simp only [go_sem];refine b0k (fun hc7=>?_) (fun hc7=>?_)
   ·rw [b0r hc7] at hm1;simp only [b0s,b02,b0f];refine hK6 _ _ ?_;refine b0i fun K8 hK8=>?_;simp only [b0u];obtain ⟨x10,h_x10,hm1⟩:=b0g hm1;have h_x100:=b05 h_x10;have h_x101:=b06 h_x10;apply b0b;intro K hK;simp only [go_sem,s3,s8,b08 h_x10,b3n h_x10,h_x100,h_x101];apply hK;refine b2p (fun t h=>t 3 = .fp [I s.Size.1,I s.Size.2.1,I s.Size.2.2,.fs 3 (List.map b70 s.Walls)] 0/\t 4 = .fp [I at_.1,I at_.2.1,I at_.2.2] 0/\t 5 = .fp [I size.1,I size.2.1,I size.2.2] 0/\t 8=I i_8/\t 98=B ((((((decide (at_.1<=x10.1)) && (decide (x10.1<(wr (at_.1+size.1))))) && (decide (at_.2.1<=x10.2.1))) && (decide (x10.2.1<(wr (at_.2.1+size.2.1))))) && (decide (at_.2.2<=x10.2.2))) && (decide (x10.2.2<(wr (at_.2.2+size.2.2)))))) (fun K hK=>?_) ?_
    ·simp only [go_sem,s4,s5];refine b0k (fun hg11=>?_) (fun hg11=>?_)
     ·simp only [go_sem,s4,s5,hg11];refine b0k (fun hg12=>?_) (fun hg12=>?_)
      ·simp only [go_sem,s4,s5,hg11,hg12];refine b0k (fun hg13=>?_) (fun hg13=>?_)
       ·simp only [go_sem,s4,s5,hg11,hg12,hg13];refine b0k (fun hg14=>?_) (fun hg14=>?_)
        ·simp only [go_sem,s4,s5,hg11,hg12,hg13,hg14];refine b0k (fun hg15=>?_) (fun hg15=>?_)
         ·simp only [go_sem,s4,s5,hg11,hg12,hg13,hg14,hg15];exact hK _ _ ⟨s3,s4,s5,s8,(by first|(simp only [go_sem,hg11,hg12,hg13,hg14,hg15,lA9,mA9]; done)|rfl)⟩
         ·simp only [go_sem,s4,s5,hg11,hg12,hg13,hg14,hg15];exact hK _ _ ⟨s3,s4,s5,s8,(by first|(simp only [go_sem,hg11,hg12,hg13,hg14,hg15,lA9,mA9]; done)|rfl)⟩
        ·simp only [go_sem,s4,s5,hg11,hg12,hg13,hg14];exact hK _ _ ⟨s3,s4,s5,s8,(by first|(simp only [go_sem,hg11,hg12,hg13,hg14,lA9,mA9]; done)|rfl)⟩
       ·simp only [go_sem,s4,s5,hg11,hg12,hg13];exact hK _ _ ⟨s3,s4,s5,s8,(by first|(simp only [go_sem,hg11,hg12,hg13,lA9,mA9]; done)|rfl)⟩
      ·simp only [go_sem,s4,s5,hg11,hg12];exact hK _ _ ⟨s3,s4,s5,s8,(by first|(simp only [go_sem,hg11,hg12,lA9,mA9]; done)|rfl)⟩
     ·simp only [go_sem,s4,s5,hg11];exact hK _ _ ⟨s3,s4,s5,s8,(by first|(simp only [go_sem,hg11,lA9,mA9]; done)|rfl)⟩
    ·rintro t h ⟨s3,s4,s5,s8,s98⟩;simp only [go_sem,s98];refine b0k (fun hc16=>?_) (fun hc16=>?_)
     ·rw [b0r hc16] at hm1;apply b0b;intro K hK;simp only [go_sem];apply hK;simp only [b0x,b1p,b2e,b0y];obtain rfl:=sI9 hm1;obtain rfl:=hb5 _ rfl
      try dsimp only at hm0
      obtain rfl:=sI9 hm0;exact b04 vb9 (b0e _)
     ·rw [b0q hc16] at hm1;simp only [b0s,b02,b0f];refine hK8 _ _ ?_;apply b03;intro K hK;simp only [go_sem,s8];apply hK;simp only [b02,b0f];obtain rfl:=sI9 hm1;refine ⟨_,rfl,?_⟩;exact ⟨s3,s4,s5,(by first|(simp only [go_sem,s8,lA9,mA9]; done)|rfl)⟩
   ·rw [b0q hc7] at hm1;simp only [b09,b1b,b1a,c0s,b02,b0f,Nat.reduceEqDiff,nF9];obtain rfl:=sI9 hm1;obtain rfl:=hb5 _ rfl
    try dsimp only at hm0
    exact J4  _ _  hm0
 simp only [b0u];obtain ⟨b18,hl18,hm0⟩:=b0g hm0;refine b1j hl18 (fun|a_7,t,h=>t 3 = .fp [I s.Size.1,I s.Size.2.1,I s.Size.2.2,.fs 3 (List.map b70 s.Walls)] 0/\t 4 = .fp [I at_.1,I at_.2.1,I at_.2.2] 0/\t 5 = .fp [I size.1,I size.2.1,I size.2.2] 0/\t 7=I a_7) ?_ ?_
 ·exact ⟨va9,va9,va9,va9⟩
 ·rintro a_7 o t h ⟨s3,s4,s5,s7⟩ hm1 hb18;simp only [L4u] at hm1;rw [L9t];refine b0v ?_;apply b0b;intro K hK;simp only [go_sem,s7];apply hK;refine b0i fun K19 hK19=>?_;simp only [go_sem];refine b0k (fun hc20=>?_) (fun hc20=>?_)
  ·rw [b0r hc20] at hm1;simp only [b0s,b02,b0f];refine hK19 _ _ ?_;refine b0i fun K21 hK21=>?_;simp only [b0u];obtain ⟨x26,h_x26,hm1⟩:=b0g hm1;have ha_x26:∀ v:Int,List.take (Int.toNat (a_7)) [I at_.1,I at_.2.1,I at_.2.2]++[I v]++List.drop (Int.toNat (a_7)) [I at_.2.1,I at_.2.2]=[I (b1n (a_7) 0 v at_.1),I (b1n (a_7) 1 v at_.2.1),I (b1n (a_7) 2 v at_.2.2)]:=fun v=>(o9p (cs:=[I at_.1,I at_.2.1,I at_.2.2]) (v:=v) h_x26 rfl).trans (by rw [K83 h_x26]; rfl);have hb_x26:Int.toNat (a_7)+1<=3:=Nat.le_trans (c0a h_x26) vi9;obtain ⟨c29,h_c29,hm1⟩:=b0g hm1;refine b2p (fun t h=>t 3 = .fp [I s.Size.1,I s.Size.2.1,I s.Size.2.2,.fs 3 (List.map b70 s.Walls)] 0/\t 4 = .fp [I at_.1,I at_.2.1,I at_.2.2] 0/\t 5 = .fp [I size.1,I size.2.1,I size.2.2] 0/\t 7=I a_7/\t 37=B c29) (fun K hK=>?_) ?_
   ·simp only [go_sem,s3,s4,s5,s7,o9i (n:=3) (l:=[at_.1,at_.2.1,at_.2.2]) (cs:=[I at_.1,I at_.2.1,I at_.2.2]) h_x26 rfl rfl,d94 (n:=3) (l:=[at_.1,at_.2.1,at_.2.2]) h_x26 rfl,c7f (n:=3) (l:=[at_.1,at_.2.1,at_.2.2]) h_x26 rfl,L0t (cs:=[I at_.1,I at_.2.1,I at_.2.2]) h_x26 rfl,ha_x26,hb_x26];refine b0k (fun hg30=>?_) (fun hg30=>?_)
    ·simp only [hg30,Bool.not_true,Bool.not_false,eq_self,if_true,if_false,Bool.true_or,Bool.or_true,Bool.false_or,Bool.or_false,Bool.true_and,Bool.and_true,Bool.false_and,Bool.and_false,fT9] at h_c29;obtain rfl:=sI9 h_c29;simp only [go_sem,s3,s4,s5,s7,o9i (n:=3) (l:=[at_.1,at_.2.1,at_.2.2]) (cs:=[I at_.1,I at_.2.1,I at_.2.2]) h_x26 rfl rfl,d94 (n:=3) (l:=[at_.1,at_.2.1,at_.2.2]) h_x26 rfl,c7f (n:=3) (l:=[at_.1,at_.2.1,at_.2.2]) h_x26 rfl,L0t (cs:=[I at_.1,I at_.2.1,I at_.2.2]) h_x26 rfl,ha_x26,hb_x26,hg30];exact hK _ _ ⟨s3,s4,s5,s7,(by first|(simp only [go_sem,hg30,lA9,mA9]; done)|rfl)⟩
    ·simp only [go_sem,s3,s4,s5,s7,o9i (n:=3) (l:=[at_.1,at_.2.1,at_.2.2]) (cs:=[I at_.1,I at_.2.1,I at_.2.2]) h_x26 rfl rfl,d94 (n:=3) (l:=[at_.1,at_.2.1,at_.2.2]) h_x26 rfl,c7f (n:=3) (l:=[at_.1,at_.2.1,at_.2.2]) h_x26 rfl,L0t (cs:=[I at_.1,I at_.2.1,I at_.2.2]) h_x26 rfl,ha_x26,hb_x26,hg30];refine b0k (fun hg31=>?_) (fun hg31=>?_)
     ·simp only [hg30,hg31,Bool.not_true,Bool.not_false,eq_self,if_true,if_false,Bool.true_or,Bool.or_true,Bool.false_or,Bool.or_false,Bool.true_and,Bool.and_true,Bool.false_and,Bool.and_false,fT9] at h_c29;obtain rfl:=sI9 h_c29;simp only [go_sem,s3,s4,s5,s7,o9i (n:=3) (l:=[at_.1,at_.2.1,at_.2.2]) (cs:=[I at_.1,I at_.2.1,I at_.2.2]) h_x26 rfl rfl,d94 (n:=3) (l:=[at_.1,at_.2.1,at_.2.2]) h_x26 rfl,c7f (n:=3) (l:=[at_.1,at_.2.1,at_.2.2]) h_x26 rfl,L0t (cs:=[I at_.1,I at_.2.1,I at_.2.2]) h_x26 rfl,ha_x26,hb_x26,hg30,hg31];exact hK _ _ ⟨s3,s4,s5,s7,(by first|(simp only [go_sem,hg30,hg31,lA9,mA9]; done)|rfl)⟩
     ·simp only [hg30,hg31,Bool.not_true,Bool.not_false,eq_self,if_true,if_false,Bool.true_or,Bool.or_true,Bool.false_or,Bool.or_false,Bool.true_and,Bool.and_true,Bool.false_and,Bool.and_false,fT9] at h_c29;obtain ⟨x27,h_x27,h_c29⟩:=b0g h_c29;have ha_x27:∀ v:Int,List.take (Int.toNat (a_7)) [I size.1,I size.2.1,I size.2.2]++[I v]++List.drop (Int.toNat (a_7)) [I size.2.1,I size.2.2]=[I (b1n (a_7) 0 v size.1),I (b1n (a_7) 1 v size.2.1),I (b1n (a_7) 2 v size.2.2)]:=fun v=>(o9p (cs:=[I size.1,I size.2.1,I size.2.2]) (v:=v) h_x27 rfl).trans (by rw [K83 h_x27]; rfl);have hb_x27:Int.toNat (a_7)+1<=3:=Nat.le_trans (c0a h_x27) vi9;obtain ⟨x28,h_x28,h_c29⟩:=b0g h_c29;have ha_x28:∀ v:Int,List.take (Int.toNat (a_7)) [I s.Size.1,I s.Size.2.1,I s.Size.2.2,.fs 3 (List.map b70 s.Walls)]++[I v]++List.drop (Int.toNat (a_7)) [I s.Size.2.1,I s.Size.2.2,.fs 3 (List.map b70 s.Walls)]=[I (b1n (a_7) 0 v s.Size.1),I (b1n (a_7) 1 v s.Size.2.1),I (b1n (a_7) 2 v s.Size.2.2),.fs 3 (List.map b70 s.Walls)]:=fun v=>(o9p (cs:=[I s.Size.1,I s.Size.2.1,I s.Size.2.2,.fs 3 (List.map b70 s.Walls)]) (v:=v) h_x28 rfl).trans (by rw [K83 h_x28]; rfl);have hb_x28:Int.toNat (a_7)+1<=4:=Nat.le_trans (c0a h_x28) vi9;obtain rfl:=sI9 h_c29;simp only [go_sem,s3,s4,s5,s7,o9i (n:=3) (l:=[at_.1,at_.2.1,at_.2.2]) (cs:=[I at_.1,I at_.2.1,I at_.2.2]) h_x26 rfl rfl,d94 (n:=3) (l:=[at_.1,at_.2.1,at_.2.2]) h_x26 rfl,c7f (n:=3) (l:=[at_.1,at_.2.1,at_.2.2]) h_x26 rfl,L0t (cs:=[I at_.1,I at_.2.1,I at_.2.2]) h_x26 rfl,ha_x26,hb_x26,o9i (n:=3) (l:=[size.1,size.2.1,size.2.2]) (cs:=[I size.1,I size.2.1,I size.2.2]) h_x27 rfl rfl,d94 (n:=3) (l:=[size.1,size.2.1,size.2.2]) h_x27 rfl,c7f (n:=3) (l:=[size.1,size.2.1,size.2.2]) h_x27 rfl,L0t (cs:=[I size.1,I size.2.1,I size.2.2]) h_x27 rfl,ha_x27,hb_x27,d94 (n:=3) (l:=[s.Size.1,s.Size.2.1,s.Size.2.2]) h_x28 rfl,c7f (n:=3) (l:=[s.Size.1,s.Size.2.1,s.Size.2.2]) h_x28 rfl,L0t (cs:=[I s.Size.1,I s.Size.2.1,I s.Size.2.2,.fs 3 (List.map b70 s.Walls)]) h_x28 rfl,ha_x28,hb_x28,hg30,hg31]
      exact hK _ _ ⟨s3,s4,s5,s7,(by first|(simp only [go_sem,hg30,hg31,lA9,mA9]; done)|rfl)⟩
   ·rintro t h ⟨s3,s4,s5,s7,s37⟩;simp only [go_sem,s37];refine b0k (fun hc32=>?_) (fun hc32=>?_)
    ·rw [b0r hc32] at hm1;apply b0b;intro K hK;simp only [go_sem];apply hK;simp only [b0x,b1p,b2e,b0y];obtain rfl:=sI9 hm1;obtain rfl:=hb18 _ rfl
     try dsimp only at hm0
     obtain rfl:=sI9 hm0;exact b04 vb9 (b0e _)
    ·rw [b0q hc32] at hm1;simp only [b0s,b02,b0f];refine hK21 _ _ ?_;apply b03;intro K hK;simp only [go_sem,s7];apply hK;simp only [b02,b0f];obtain rfl:=sI9 hm1;refine ⟨_,rfl,?_⟩;exact ⟨s3,s4,s5,(by first|(simp only [go_sem,s7,lA9,mA9]; done)|rfl)⟩
  ·rw [b0q hc20] at hm1;simp only [b09,b1b,b1a,c0s,b02,b0f,Nat.reduceEqDiff,nF9];obtain rfl:=sI9 hm1;obtain rfl:=hb18 _ rfl
   try dsimp only at hm0
   exact J2  _ _ s3 s4 s5 hm0
theorem L7g (hf:Has O "newel/newelref09.inside" x_r09_inside) (L4b:L40 O):L6w O:=by
 intro s c r hm0;unfold L5t at hm0;refine b1i hf rfl (b0a (.agg _ (b0a (b0e _) (b0a (b0e _) (b0a (b0e _) (b0a (b0c fun a _=>K64 a) b0j))))) (b0a (.agg _ (b0a (b0e _) (b0a (b0e _) (b0a (b0e _) b0j)))) b0j)) (b0e _) ?_;refine b1c (fun t h=>t 0 = .agg [I s.Size.1,I s.Size.2.1,I s.Size.2.2,.fs 3 (List.map b70 s.Walls)]/\t 1 = .agg [I c.1,I c.2.1,I c.2.2]) ⟨rfl,rfl⟩ fun t h ⟨s0,s1⟩=>?_;simp only [x_r09_inside];apply b0b;intro K hK;simp only [go_sem,s0,s1];apply hK;refine b0v ?_;apply b0b;intro K hK;simp only [go_sem];apply hK;refine b0i fun K1 hK1=>?_
 have J2:∀ (t:Slots) (h:Heap),L7t=some r->K1 t h:=by
  intro t h hm0;refine hK1 _ _ ?_;unfold L7t at hm0;apply b0b;intro K hK;simp only [go_sem];apply hK;simp only [b0x,b1p,b2e,b0y];obtain rfl:=sI9 hm0;exact b04 vb9 (b0e _)
 simp only [b0u];obtain ⟨b3,hl3,hm0⟩:=b0g hm0;refine b1j hl3 (fun|a_5,t,h=>t 2 = .fp [I s.Size.1,I s.Size.2.1,I s.Size.2.2,.fs 3 (List.map b70 s.Walls)] 0/\t 3 = .fp [I c.1,I c.2.1,I c.2.2] 0/\t 5=I a_5) ?_ ?_
 ·exact ⟨va9,va9,va9⟩
 ·rintro a_5 o t h ⟨s2,s3,s5⟩ hm1 hb3;simp only [L4v] at hm1;rw [L9u];refine b0v ?_;apply b0b;intro K hK;simp only [go_sem,s5];apply hK;refine b0i fun K4 hK4=>?_;simp only [go_sem];refine b0k (fun hc5=>?_) (fun hc5=>?_)
  ·rw [b0r hc5] at hm1;simp only [b0s,b02,b0f];refine hK4 _ _ ?_;refine b0i fun K6 hK6=>?_;simp only [b0u];obtain ⟨x9,h_x9,hm1⟩:=b0g hm1;have ha_x9:∀ v:Int,List.take (Int.toNat (a_5)) [I c.1,I c.2.1,I c.2.2]++[I v]++List.drop (Int.toNat (a_5)) [I c.2.1,I c.2.2]=[I (b1n (a_5) 0 v c.1),I (b1n (a_5) 1 v c.2.1),I (b1n (a_5) 2 v c.2.2)]:=fun v=>(o9p (cs:=[I c.1,I c.2.1,I c.2.2]) (v:=v) h_x9 rfl).trans (by rw [K83 h_x9]; rfl);have hb_x9:Int.toNat (a_5)+1<=3:=Nat.le_trans (c0a h_x9) vi9;obtain ⟨x10,h_x10,hm1⟩:=b0g hm1;have ha_x10:∀ v:Int,List.take (Int.toNat (a_5)) [I s.Size.1,I s.Size.2.1,I s.Size.2.2,.fs 3 (List.map b70 s.Walls)]++[I v]++List.drop (Int.toNat (a_5)) [I s.Size.2.1,I s.Size.2.2,.fs 3 (List.map b70 s.Walls)]=[I (b1n (a_5) 0 v s.Size.1),I (b1n (a_5) 1 v s.Size.2.1),I (b1n (a_5) 2 v s.Size.2.2),.fs 3 (List.map b70 s.Walls)]:=fun v=>(o9p (cs:=[I s.Size.1,I s.Size.2.1,I s.Size.2.2,.fs 3 (List.map b70 s.Walls)]) (v:=v) h_x10 rfl).trans (by rw [K83 h_x10]; rfl);have hb_x10:Int.toNat (a_5)+1<=4:=Nat.le_trans (c0a h_x10) vi9;apply b0b;intro K hK;simp only [go_sem,s2,s3,s5,o9i (n:=3) (l:=[c.1,c.2.1,c.2.2]) (cs:=[I c.1,I c.2.1,I c.2.2]) h_x9 rfl rfl,d94 (n:=3) (l:=[c.1,c.2.1,c.2.2]) h_x9 rfl,c7f (n:=3) (l:=[c.1,c.2.1,c.2.2]) h_x9 rfl,L0t (cs:=[I c.1,I c.2.1,I c.2.2]) h_x9 rfl,ha_x9,hb_x9,d94 (n:=3) (l:=[s.Size.1,s.Size.2.1,s.Size.2.2]) h_x10 rfl,c7f (n:=3) (l:=[s.Size.1,s.Size.2.1,s.Size.2.2]) h_x10 rfl,L0t (cs:=[I s.Size.1,I s.Size.2.1,I s.Size.2.2,.fs 3 (List.map b70 s.Walls)]) h_x10 rfl,ha_x10,hb_x10];refine b01 (L4b x9 0 (wr (x10 - 1))) ?_;simp only [go_sem,s2,s3,s5,o9i (n:=3) (l:=[c.1,c.2.1,c.2.2]) (cs:=[I c.1,I c.2.1,I c.2.2]) h_x9 rfl rfl,d94 (n:=3) (l:=[c.1,c.2.1,c.2.2]) h_x9 rfl,c7f (n:=3) (l:=[c.1,c.2.1,c.2.2]) h_x9 rfl,L0t (cs:=[I c.1,I c.2.1,I c.2.2]) h_x9 rfl,ha_x9,hb_x9,d94 (n:=3) (l:=[s.Size.1,s.Size.2.1,s.Size.2.2]) h_x10 rfl,c7f (n:=3) (l:=[s.Size.1,s.Size.2.1,s.Size.2.2]) h_x10 rfl,L0t (cs:=[I s.Size.1,I s.Size.2.1,I s.Size.2.2,.fs 3 (List.map b70 s.Walls)]) h_x10 rfl,ha_x10,hb_x10]
   apply hK;simp only [go_sem];refine b0k (fun hc11=>?_) (fun hc11=>?_)
   ·rw [b0r hc11] at hm1;apply b0b;intro K hK;simp only [go_sem];apply hK;simp only [b0x,b1p,b2e,b0y];obtain rfl:=sI9 hm1;obtain rfl:=hb3 _ rfl
    try dsimp only at hm0
    obtain rfl:=sI9 hm0;exact b04 vb9 (b0e _)
   ·rw [b0q hc11] at hm1;simp only [b0s,b02,b0f];refine hK6 _ _ ?_;apply b03;intro K hK;simp only [go_sem,s5];apply hK;simp only [b02,b0f];obtain rfl:=sI9 hm1;refine ⟨_,rfl,?_⟩;exact ⟨s2,s3,(by first|(simp only [go_sem,s5,lA9,mA9]; done)|rfl)⟩
  ·rw [b0q hc5] at hm1;simp only [b09,b1b,b1a,c0s,b02,b0f,Nat.reduceEqDiff,nF9];obtain rfl:=sI9 hm1;obtain rfl:=hb3 _ rfl
   try dsimp only at hm0
   exact J2  _ _  hm0
theorem L7h (hf:Has O "newel/newelref09.orders" x_r09_orders):L6x O:=by
 intro _;generalize hm0:b90=r;unfold b90 at hm0;refine b1i hf rfl b0j (.agg _ (b0a (b0e _) (b0a (b0e _) (b0a (b0e _) (b0a (b0e _) (b0a (b0e _) (b0a (b0e _) (b0a (b0e _) (b0a (b0e _) (b0a (b0e _) (b0a (b0e _) (b0a (b0e _) (b0a (b0e _) (b0a (b0e _) (b0a (b0e _) (b0a (b0e _) (b0a (b0e _) (b0a (b0e _) (b0a (b0e _) b0j))))))))))))))))))) ?_;refine b1c (fun t h=>True) trivial fun t h _=>?_;simp only [x_r09_orders];apply b0b;intro K hK;simp only [go_sem];apply hK;apply b0b;intro K hK;simp only [go_sem];apply hK;simp only [b0x,b1p,b2e,b0y];obtain rfl:=hm0;exact L18 (id:=h.nx) (m:=18) (cs:=[I 0,I 1,I 2,I 0,I 2,I 1,I 1,I 0,I 2,I 1,I 2,I 0,I 2,I 0,I 1,I 2,I 1,I 0]) vb9 vb9 rfl (.refl _ (.agg _ (b0a (b0e _) (b0a (b0e _) (b0a (b0e _) (b0a (b0e _) (b0a (b0e _) (b0a (b0e _) (b0a (b0e _) (b0a (b0e _) (b0a (b0e _) (b0a (b0e _) (b0a (b0e _) (b0a (b0e _) (b0a (b0e _) (b0a (b0e _) (b0a (b0e _) (b0a (b0e _) (b0a (b0e _) (b0a (b0e _) b0j))))))))))))))))))))
theorem L7j (hf:Has O "newel/shaft.Check" x_shaft_Check):L6y O:=by
 intro s r hm0;unfold L5v at hm0;refine b1i hf rfl (b0a (.agg _ (b0a (b0e _) (b0a (b0e _) (b0a (b0e _) (b0a (b0c fun a _=>K64 a) b0j))))) b0j) (b0e _) ?_;refine b1c (fun t h=>t 0 = .agg [I s.Size.1,I s.Size.2.1,I s.Size.2.2,.fs 3 (List.map b70 s.Walls)]) rfl fun t h s0=>?_;simp only [x_shaft_Check];apply b0b;intro K hK;simp only [go_sem,s0];apply hK;refine b0v ?_;apply b0b;intro K hK;simp only [go_sem];apply hK;refine b0i fun K1 hK1=>?_
 have J2:∀ (t:Slots) (h:Heap),t 1 = .fp [I s.Size.1,I s.Size.2.1,I s.Size.2.2,.fs 3 (List.map b70 s.Walls)] 0->L6j s=some r->K1 t h:=by
  intro t h s1 hm0;refine hK1 _ _ ?_;unfold L6j at hm0;refine b0v ?_;apply b0b;intro K hK;simp only [go_sem,s1];apply hK;refine b0i fun K3 hK3=>?_;simp only [go_sem];refine b0k (fun hc4=>?_) (fun hc4=>?_)
  ·rw [b0r hc4] at hm0;apply b0b;intro K hK;simp only [go_sem];apply hK;simp only [b0x,b1p,b2e,b0y];obtain rfl:=sI9 hm0;exact b04 vb9 (b0e _)
  ·rw [b0q hc4] at hm0;simp only [b0s,b02,b0f];refine hK3 _ _ ?_;refine b0v ?_;apply b0b;intro K hK;simp only [go_sem,s1];apply hK;refine b0i fun K5 hK5=>?_
   have J6:∀ (t:Slots) (h:Heap),L7x=some r->K5 t h:=by
    intro t h hm0;refine hK5 _ _ ?_;unfold L7x at hm0;apply b0b;intro K hK;simp only [go_sem];apply hK;simp only [b0x,b1p,b2e,b0y];obtain rfl:=sI9 hm0;exact b04 vb9 (b0e _)
   simp only [b0u];obtain ⟨b7,hl7,hm0⟩:=b0g hm0;refine b1j hl7 (fun|x_28,t,h=>t 1 = .fp [I s.Size.1,I s.Size.2.1,I s.Size.2.2,.fs 3 (List.map b70 s.Walls)] 0/\t 26 = .fs 3 (List.map b70 s.Walls)/\t 27=I (List.length s.Walls:Int)/\t 28=I x_28) ?_ ?_
   ·exact ⟨s1,va9,va9,va9⟩
   ·rintro x_28 o t h ⟨s1,s26,s27,s28⟩ hm1 hb7;simp only [L5w] at hm1;rw [L9w];apply b0b;intro K hK;simp only [go_sem,s27,s28];apply hK;refine b0i fun K8 hK8=>?_;simp only [go_sem];refine b0k (fun hc9=>?_) (fun hc9=>?_)
    ·rw [b0r hc9] at hm1;simp only [b0s,b02,b0f];refine hK8 _ _ ?_;refine b0i fun K10 hK10=>?_
     have J11:∀ (t:Slots) (h:Heap),t 1 = .fp [I s.Size.1,I s.Size.2.1,I s.Size.2.2,.fs 3 (List.map b70 s.Walls)] 0->t 26 = .fs 3 (List.map b70 s.Walls)->t 27=I (List.length s.Walls:Int)->t 28=I x_28->L7w x_28=some o->K10 t h:=by
      intro t h s1 s26 s27 s28 hm1;refine hK10 _ _ ?_;unfold L7w at hm1;apply b03;intro K hK;simp only [go_sem,s28];apply hK;simp only [b02,b0f];obtain rfl:=sI9 hm1;refine ⟨_,rfl,?_⟩;exact ⟨s1,s26,s27,(by first|(simp only [go_sem,s28,lA9,mA9]; done)|rfl)⟩
     simp only [b0u];obtain ⟨x13,h_x13,hm1⟩:=b0g hm1;have h_x130:=b05 h_x13;have h_x131:=b06 h_x13;apply b0b;intro K hK;simp only [go_sem,s26,s28,b08 h_x13,b3n h_x13,h_x130,h_x131];apply hK;apply b0b;intro K hK;simp only [go_sem];apply hK;simp only [b0u];obtain ⟨b14,hl14,hm1⟩:=b0g hm1;refine b1j hl14 (fun|x_33,t,h=>t 1 = .fp [I s.Size.1,I s.Size.2.1,I s.Size.2.2,.fs 3 (List.map b70 s.Walls)] 0/\t 26 = .fs 3 (List.map b70 s.Walls)/\t 27=I (List.length s.Walls:Int)/\t 28=I x_28/\t 32 = .agg [I x13.1,I x13.2.1,I x13.2.2]/\t 33=I x_33) ?_ ?_
     ·exact ⟨s1,s26,s27,s28,va9,va9⟩
     ·rintro x_33 o t h ⟨s1,s26,s27,s28,s32,s33⟩ hm2 hb14;simp only [L4w] at hm2;rw [L9v];apply b0b;intro K hK;simp only [go_sem,s33];apply hK;refine b0i fun K15 hK15=>?_;simp only [go_sem];refine b0k (fun hc16=>?_) (fun hc16=>?_)
      ·rw [b0r hc16] at hm2;simp only [b0s,b02,b0f];refine hK15 _ _ ?_;refine b0i fun K17 hK17=>?_;simp only [b0u];obtain ⟨x19,h_x19,hm2⟩:=b0g hm2;have ha_x19:∀ v:Int,List.take (Int.toNat (x_33)) [I x13.1,I x13.2.1,I x13.2.2]++[I v]++List.drop (Int.toNat (x_33)) [I x13.2.1,I x13.2.2]=[I (b1n (x_33) 0 v x13.1),I (b1n (x_33) 1 v x13.2.1),I (b1n (x_33) 2 v x13.2.2)]:=fun v=>(o9p (cs:=[I x13.1,I x13.2.1,I x13.2.2]) (v:=v) h_x19 rfl).trans (by rw [K83 h_x19]; rfl);have hb_x19:Int.toNat (x_33)+1<=3:=Nat.le_trans (c0a h_x19) vi9;apply b0b;intro K hK;simp only [go_sem,s32,s33,o9i (n:=3) (l:=[x13.1,x13.2.1,x13.2.2]) (cs:=[I x13.1,I x13.2.1,I x13.2.2]) h_x19 rfl rfl,d94 (n:=3) (l:=[x13.1,x13.2.1,x13.2.2]) h_x19 rfl,c7f (n:=3) (l:=[x13.1,x13.2.1,x13.2.2]) h_x19 rfl,L0t (cs:=[I x13.1,I x13.2.1,I x13.2.2]) h_x19 rfl,ha_x19,hb_x19];apply hK;obtain ⟨c23,h_c23,hm2⟩:=b0g hm2;refine b2p (fun t h=>t 1 = .fp [I s.Size.1,I s.Size.2.1,I s.Size.2.2,.fs 3 (List.map b70 s.Walls)] 0/\t 26 = .fs 3 (List.map b70 s.Walls)/\t 27=I (List.length s.Walls:Int)/\t 28=I x_28/\t 32 = .agg [I x13.1,I x13.2.1,I x13.2.2]/\t 33=I x_33/\t 46=B c23) (fun K hK=>?_) ?_
       ·simp only [go_sem,s1];refine b0k (fun hg24=>?_) (fun hg24=>?_)
        ·simp only [hg24,Bool.not_true,Bool.not_false,eq_self,if_true,if_false,Bool.true_or,Bool.or_true,Bool.false_or,Bool.or_false,Bool.true_and,Bool.and_true,Bool.false_and,Bool.and_false,fT9] at h_c23;obtain rfl:=sI9 h_c23;simp only [go_sem,s1,hg24];exact hK _ _ ⟨s1,s26,s27,s28,s32,s33,(by first|(simp only [go_sem,hg24,lA9,mA9]; done)|rfl)⟩
        ·simp only [hg24,Bool.not_true,Bool.not_false,eq_self,if_true,if_false,Bool.true_or,Bool.or_true,Bool.false_or,Bool.or_false,Bool.true_and,Bool.and_true,Bool.false_and,Bool.and_false,fT9] at h_c23;obtain ⟨x22,h_x22,h_c23⟩:=b0g h_c23;have ha_x22:∀ v:Int,List.take (Int.toNat (x_33)) [I s.Size.1,I s.Size.2.1,I s.Size.2.2,.fs 3 (List.map b70 s.Walls)]++[I v]++List.drop (Int.toNat (x_33)) [I s.Size.2.1,I s.Size.2.2,.fs 3 (List.map b70 s.Walls)]=[I (b1n (x_33) 0 v s.Size.1),I (b1n (x_33) 1 v s.Size.2.1),I (b1n (x_33) 2 v s.Size.2.2),.fs 3 (List.map b70 s.Walls)]:=fun v=>(o9p (cs:=[I s.Size.1,I s.Size.2.1,I s.Size.2.2,.fs 3 (List.map b70 s.Walls)]) (v:=v) h_x22 rfl).trans (by rw [K83 h_x22]; rfl);have hb_x22:Int.toNat (x_33)+1<=4:=Nat.le_trans (c0a h_x22) vi9;obtain rfl:=sI9 h_c23;simp only [go_sem,s1,d94 (n:=3) (l:=[s.Size.1,s.Size.2.1,s.Size.2.2]) h_x22 rfl,c7f (n:=3) (l:=[s.Size.1,s.Size.2.1,s.Size.2.2]) h_x22 rfl,L0t (cs:=[I s.Size.1,I s.Size.2.1,I s.Size.2.2,.fs 3 (List.map b70 s.Walls)]) h_x22 rfl,ha_x22,hb_x22,hg24];exact hK _ _ ⟨s1,s26,s27,s28,s32,s33,(by first|(simp only [go_sem,hg24,lA9,mA9]; done)|rfl)⟩
       ·rintro t h ⟨s1,s26,s27,s28,s32,s33,s46⟩;simp only [go_sem,s46];refine b0k (fun hc25=>?_) (fun hc25=>?_)
        ·rw [b0r hc25] at hm2;apply b0b;intro K hK;simp only [go_sem];apply hK;simp only [b0x,b1p,b2e,b0y];obtain rfl:=sI9 hm2;obtain rfl:=hb14 _ rfl
         try dsimp only at hm1
         obtain rfl:=sI9 hm1;obtain rfl:=hb7 _ rfl
         try dsimp only at hm0
         obtain rfl:=sI9 hm0;exact b04 vb9 (b0e _)
        ·rw [b0q hc25] at hm2;simp only [b0s,b02,b0f];refine hK17 _ _ ?_;apply b03;intro K hK;simp only [go_sem,s33];apply hK;simp only [b02,b0f];obtain rfl:=sI9 hm2;refine ⟨_,rfl,?_⟩;exact ⟨s1,s26,s27,s28,s32,(by first|(simp only [go_sem,s33,lA9,mA9]; done)|rfl)⟩
      ·rw [b0q hc16] at hm2;simp only [b09,b1b,b1a,c0s,b02,b0f,Nat.reduceEqDiff,nF9];obtain rfl:=sI9 hm2;obtain rfl:=hb14 _ rfl
       try dsimp only at hm1
       exact J11  _ _ s1 s26 s27 s28 hm1
    ·rw [b0q hc9] at hm1;simp only [b09,b1b,b1a,c0s,b02,b0f,Nat.reduceEqDiff,nF9];obtain rfl:=sI9 hm1;obtain rfl:=hb7 _ rfl
     try dsimp only at hm0
     exact J6  _ _  hm0
 simp only [b0u];obtain ⟨b28,hl28,hm0⟩:=b0g hm0;refine b1j hl28 (fun|x_11,t,h=>t 1 = .fp [I s.Size.1,I s.Size.2.1,I s.Size.2.2,.fs 3 (List.map b70 s.Walls)] 0/\t 10 = .agg [I s.Size.1,I s.Size.2.1,I s.Size.2.2]/\t 11=I x_11) ?_ ?_
 ·exact ⟨va9,va9,va9⟩
 ·rintro x_11 o t h ⟨s1,s10,s11⟩ hm1 hb28;simp only [L4x] at hm1;rw [L9x];apply b0b;intro K hK;simp only [go_sem,s11];apply hK;refine b0i fun K29 hK29=>?_;simp only [go_sem];refine b0k (fun hc30=>?_) (fun hc30=>?_)
  ·rw [b0r hc30] at hm1;simp only [b0s,b02,b0f];refine hK29 _ _ ?_;refine b0i fun K31 hK31=>?_;simp only [b0u];obtain ⟨x33,h_x33,hm1⟩:=b0g hm1;have ha_x33:∀ v:Int,List.take (Int.toNat (x_11)) [I s.Size.1,I s.Size.2.1,I s.Size.2.2]++[I v]++List.drop (Int.toNat (x_11)) [I s.Size.2.1,I s.Size.2.2]=[I (b1n (x_11) 0 v s.Size.1),I (b1n (x_11) 1 v s.Size.2.1),I (b1n (x_11) 2 v s.Size.2.2)]:=fun v=>(o9p (cs:=[I s.Size.1,I s.Size.2.1,I s.Size.2.2]) (v:=v) h_x33 rfl).trans (by rw [K83 h_x33]; rfl);have hb_x33:Int.toNat (x_11)+1<=3:=Nat.le_trans (c0a h_x33) vi9;apply b0b;intro K hK;simp only [go_sem,s10,s11,o9i (n:=3) (l:=[s.Size.1,s.Size.2.1,s.Size.2.2]) (cs:=[I s.Size.1,I s.Size.2.1,I s.Size.2.2]) h_x33 rfl rfl,d94 (n:=3) (l:=[s.Size.1,s.Size.2.1,s.Size.2.2]) h_x33 rfl,c7f (n:=3) (l:=[s.Size.1,s.Size.2.1,s.Size.2.2]) h_x33 rfl,L0t (cs:=[I s.Size.1,I s.Size.2.1,I s.Size.2.2]) h_x33 rfl,ha_x33,hb_x33];apply hK;refine b2p (fun t h=>t 1 = .fp [I s.Size.1,I s.Size.2.1,I s.Size.2.2,.fs 3 (List.map b70 s.Walls)] 0/\t 10 = .agg [I s.Size.1,I s.Size.2.1,I s.Size.2.2]/\t 11=I x_11/\t 19=B ((decide (x33<1)) || (decide (8<x33)))) (fun K hK=>?_) ?_
   ·simp only [go_sem];refine b0k (fun hg34=>?_) (fun hg34=>?_)
    ·simp only [go_sem,hg34];exact hK _ _ ⟨s1,s10,s11,(by first|(simp only [go_sem,hg34,lA9,mA9]; done)|rfl)⟩
    ·simp only [go_sem,hg34];exact hK _ _ ⟨s1,s10,s11,(by first|(simp only [go_sem,hg34,lA9,mA9]; done)|rfl)⟩
   ·rintro t h ⟨s1,s10,s11,s19⟩;simp only [go_sem,s19];refine b0k (fun hc35=>?_) (fun hc35=>?_)
    ·rw [b0r hc35] at hm1;apply b0b;intro K hK;simp only [go_sem];apply hK;simp only [b0x,b1p,b2e,b0y];obtain rfl:=sI9 hm1;obtain rfl:=hb28 _ rfl
     try dsimp only at hm0
     obtain rfl:=sI9 hm0;exact b04 vb9 (b0e _)
    ·rw [b0q hc35] at hm1;simp only [b0s,b02,b0f];refine hK31 _ _ ?_;apply b03;intro K hK;simp only [go_sem,s11];apply hK;simp only [b02,b0f];obtain rfl:=sI9 hm1;refine ⟨_,rfl,?_⟩;exact ⟨s1,s10,(by first|(simp only [go_sem,s11,lA9,mA9]; done)|rfl)⟩
  ·rw [b0q hc30] at hm1;simp only [b09,b1b,b1a,c0s,b02,b0f,Nat.reduceEqDiff,nF9];obtain rfl:=sI9 hm1;obtain rfl:=hb28 _ rfl
   try dsimp only at hm0
   exact J2  _ _ s1 hm0
theorem L5g (hf:Has O "newel/shaft.check" x_shaft_check) (L7j:L6y O):L41 O:=by
 intro s edges r hm0;unfold L5y at hm0;refine b1i hf rfl (b0a (.agg _ (b0a (b0e _) (b0a (b0e _) (b0a (b0e _) (b0a (b0c fun a _=>K64 a) b0j))))) (b0a (.agg _ (b0a (b0e _) (b0a (b0e _) (b0a (b0e _) b0j)))) b0j)) (b0e _) ?_;refine b1c (fun t h=>t 0 = .agg [I s.Size.1,I s.Size.2.1,I s.Size.2.2,.fs 3 (List.map b70 s.Walls)]/\t 1 = .agg [I edges.1,I edges.2.1,I edges.2.2]) ⟨rfl,rfl⟩ fun t h ⟨s0,s1⟩=>?_;simp only [x_shaft_check];apply b0b;intro K hK;simp only [go_sem,s0,s1];apply hK;refine b0v ?_;obtain ⟨y2,h_y2,hm0⟩:=b0g hm0;apply b0b;intro K hK;simp only [go_sem];refine b01 (L7j s _ h_y2) ?_;simp only [go_sem];apply hK;refine b0v ?_;apply b0b;intro K hK;simp only [go_sem];apply hK;refine b0i fun K3 hK3=>?_;simp only [go_sem];refine b0k (fun hc4=>?_) (fun hc4=>?_)
 ·rw [b0r hc4] at hm0;apply b0b;intro K hK;simp only [go_sem];apply hK;simp only [b0x,b1p,b2e,b0y];obtain rfl:=sI9 hm0;exact b04 vb9 (b0e _)
 ·rw [b0q hc4] at hm0;simp only [b0s,b02,b0f];refine hK3 _ _ ?_;refine b0v ?_;apply b0b;intro K hK;simp only [go_sem];apply hK;refine b0i fun K5 hK5=>?_
  have J6:∀ (t:Slots) (h:Heap),L7y=some r->K5 t h:=by
   intro t h hm0;refine hK5 _ _ ?_;unfold L7y at hm0;apply b0b;intro K hK;simp only [go_sem];apply hK;simp only [b0x,b1p,b2e,b0y];obtain rfl:=sI9 hm0;exact b04 vb9 (b0e _)
  simp only [b0u];obtain ⟨b7,hl7,hm0⟩:=b0g hm0;refine b1j hl7 (fun|x_14,t,h=>t 13 = .agg [I edges.1,I edges.2.1,I edges.2.2]/\t 14=I x_14) ?_ ?_
  ·exact ⟨va9,va9⟩
  ·rintro x_14 o t h ⟨s13,s14⟩ hm1 hb7;simp only [L4y] at hm1;rw [L9z];apply b0b;intro K hK;simp only [go_sem,s14];apply hK;refine b0i fun K8 hK8=>?_;simp only [go_sem];refine b0k (fun hc9=>?_) (fun hc9=>?_)
   ·rw [b0r hc9] at hm1;simp only [b0s,b02,b0f];refine hK8 _ _ ?_;refine b0i fun K10 hK10=>?_;simp only [b0u];obtain ⟨x12,h_x12,hm1⟩:=b0g hm1;have ha_x12:∀ v:Int,List.take (Int.toNat (x_14)) [I edges.1,I edges.2.1,I edges.2.2]++[I v]++List.drop (Int.toNat (x_14)) [I edges.2.1,I edges.2.2]=[I (b1n (x_14) 0 v edges.1),I (b1n (x_14) 1 v edges.2.1),I (b1n (x_14) 2 v edges.2.2)]:=fun v=>(o9p (cs:=[I edges.1,I edges.2.1,I edges.2.2]) (v:=v) h_x12 rfl).trans (by rw [K83 h_x12]; rfl);have hb_x12:Int.toNat (x_14)+1<=3:=Nat.le_trans (c0a h_x12) vi9;apply b0b;intro K hK;simp only [go_sem,s13,s14,o9i (n:=3) (l:=[edges.1,edges.2.1,edges.2.2]) (cs:=[I edges.1,I edges.2.1,I edges.2.2]) h_x12 rfl rfl,d94 (n:=3) (l:=[edges.1,edges.2.1,edges.2.2]) h_x12 rfl,c7f (n:=3) (l:=[edges.1,edges.2.1,edges.2.2]) h_x12 rfl,L0t (cs:=[I edges.1,I edges.2.1,I edges.2.2]) h_x12 rfl,ha_x12,hb_x12];apply hK;refine b2p (fun t h=>t 13 = .agg [I edges.1,I edges.2.1,I edges.2.2]/\t 14=I x_14/\t 22=B ((decide (x12<1)) || (decide (8<x12)))) (fun K hK=>?_) ?_
    ·simp only [go_sem];refine b0k (fun hg13=>?_) (fun hg13=>?_)
     ·simp only [go_sem,hg13];exact hK _ _ ⟨s13,s14,(by first|(simp only [go_sem,hg13,lA9,mA9]; done)|rfl)⟩
     ·simp only [go_sem,hg13];exact hK _ _ ⟨s13,s14,(by first|(simp only [go_sem,hg13,lA9,mA9]; done)|rfl)⟩
    ·rintro t h ⟨s13,s14,s22⟩;simp only [go_sem,s22];refine b0k (fun hc14=>?_) (fun hc14=>?_)
     ·rw [b0r hc14] at hm1;apply b0b;intro K hK;simp only [go_sem];apply hK;simp only [b0x,b1p,b2e,b0y];obtain rfl:=sI9 hm1;obtain rfl:=hb7 _ rfl
      try dsimp only at hm0
      obtain rfl:=sI9 hm0;exact b04 vb9 (b0e _)
     ·rw [b0q hc14] at hm1;simp only [b0s,b02,b0f];refine hK10 _ _ ?_;apply b03;intro K hK;simp only [go_sem,s14];apply hK;simp only [b02,b0f];obtain rfl:=sI9 hm1;refine ⟨_,rfl,?_⟩;exact ⟨s13,(by first|(simp only [go_sem,s14,lA9,mA9]; done)|rfl)⟩
   ·rw [b0q hc9] at hm1;simp only [b09,b1b,b1a,c0s,b02,b0f,Nat.reduceEqDiff,nF9];obtain rfl:=sI9 hm1;obtain rfl:=hb7 _ rfl
    try dsimp only at hm0
    exact J6  _ _  hm0
theorem c3p (hf:Has O "newel/situation.Asked" x_situation_Asked) (b8n:c1o O) (d3g:d0j O):c5t O:=by
 intro m c r hm0;unfold c1h at hm0;refine b1i hf rfl (b0a (fM _) (b0a (b0c fun a _=>b2j a) b0j)) (b0e _) ?_;refine b1c (fun t h=>t 0 = .agg (vM m)/\t 1 = .fs 1 (List.map b0t c)) ⟨rfl,rfl⟩ fun t h ⟨s0,s1⟩=>?_;simp only [x_situation_Asked];apply b0b;intro K hK;simp only [go_sem,s0];apply hK;refine b0v ?_;apply b0b;intro K hK;simp only [go_sem,s1];apply hK;refine b0i fun K1 hK1=>?_;simp only [go_sem];refine b0k (fun hc2=>?_) (fun hc2=>?_)
 ·rw [b0r hc2] at hm0;apply b0b;intro K hK;simp only [go_sem];apply hK;simp only [b0x,b1p,b2e,b0y];obtain rfl:=sI9 hm0;exact b04 vb9 (b0e _)
 ·rw [b0q hc2] at hm0;simp only [b0s,b02,b0f];refine hK1 _ _ ?_;refine b0v ?_;apply b0b;intro K hK;simp only [go_sem,s1];apply hK;refine b0i fun K3 hK3=>?_
  have J4:∀ (t:Slots) (h:Heap),d46=some r->K3 t h:=by
   intro t h hm0;refine hK3 _ _ ?_;unfold d46 at hm0;apply b0b;intro K hK;simp only [go_sem];apply hK;simp only [b0x,b1p,b2e,b0y];obtain rfl:=sI9 hm0;exact b04 vb9 (b0e _)
  simp only [b0u];obtain ⟨b5,hl5,hm0⟩:=b0g hm0;refine b1j hl5 (fun|x_12,t,h=>t 2 = .fp (vM m) 0/\t 10 = .fs 1 (List.map b0t c)/\t 11=I (List.length c:Int)/\t 12=I x_12) ?_ ?_
  ·exact ⟨va9,va9,va9,va9⟩
  ·rintro x_12 o t h ⟨s2,s10,s11,s12⟩ hm1 hb5;simp only [c4u] at hm1;rw [g45];apply b0b;intro K hK;simp only [go_sem,s11,s12];apply hK;refine b0i fun K6 hK6=>?_;simp only [go_sem];refine b0k (fun hc7=>?_) (fun hc7=>?_)
   ·rw [b0r hc7] at hm1;simp only [b0s,b02,b0f];refine hK6 _ _ ?_;refine b0i fun K8 hK8=>?_;simp only [b0u];obtain ⟨x10,h_x10,hm1⟩:=b0g hm1;have h_x100:=b05 h_x10;have h_x101:=b06 h_x10;apply b0b;intro K hK;simp only [go_sem,s10,s12,b08 h_x10,b3n h_x10,h_x100,h_x101];apply hK;obtain ⟨c16,h_c16,hm1⟩:=b0g hm1;refine b2p (fun t h=>t 2 = .fp (vM m) 0/\t 10 = .fs 1 (List.map b0t c)/\t 11=I (List.length c:Int)/\t 12=I x_12/\t 23=B c16) (fun K hK=>?_) ?_
    ·simp only [go_sem,s2];refine b0k (fun hg17=>?_) (fun hg17=>?_)
     ·simp only [hg17,Bool.not_true,Bool.not_false,eq_self,if_true,if_false,Bool.true_or,Bool.or_true,Bool.false_or,Bool.or_false,Bool.true_and,Bool.and_true,Bool.false_and,Bool.and_false,fT9] at h_c16;obtain rfl:=sI9 h_c16;simp only [go_sem,s2,hg17];exact hK _ _ ⟨s2,s10,s11,s12,(by first|(simp only [go_sem,hg17,lA9,mA9]; done)|rfl)⟩
     ·simp only [hg17,Bool.not_true,Bool.not_false,eq_self,if_true,if_false,Bool.true_or,Bool.or_true,Bool.false_or,Bool.or_false,Bool.true_and,Bool.and_true,Bool.false_and,Bool.and_false,fT9] at h_c16;obtain ⟨y15,h_y15,h_c16⟩:=b0g h_c16;obtain rfl:=sI9 h_c16;simp only [go_sem,s2,hg17];refine b01 (b8n x10 "newel/situation.Asked$1" [] [.fp (vM m) 0] (fun z14=>b82 z14 m) (.fn _ _ _ b0j (b0a (.fp _ _ (b0a (b0c fun a _=>b0z a) (b0a (b0c fun a _=>b0z a) (b0a (b0c fun a _=>b1q a) (b0a (b0c fun a _=>b1s a) (b0a (b0c fun a _=>b1r a) b0j)))))) b0j)) (fun z0 y hz=>d3g z0 m y hz) _ h_y15) ?_;simp only [go_sem,s2,hg17];exact hK _ _ ⟨s2,s10,s11,s12,(by first|(simp only [go_sem,hg17,lA9,mA9]; done)|rfl)⟩
    ·rintro t h ⟨s2,s10,s11,s12,s23⟩;simp only [go_sem,s23];refine b0k (fun hc18=>?_) (fun hc18=>?_)
     ·rw [b0r hc18] at hm1;apply b0b;intro K hK;simp only [go_sem];apply hK;simp only [b0x,b1p,b2e,b0y];obtain rfl:=sI9 hm1;obtain rfl:=hb5 _ rfl
      try dsimp only at hm0
      obtain rfl:=sI9 hm0;exact b04 vb9 (b0e _)
     ·rw [b0q hc18] at hm1;simp only [b0s,b02,b0f];refine hK8 _ _ ?_;apply b03;intro K hK;simp only [go_sem,s12];apply hK;simp only [b02,b0f];obtain rfl:=sI9 hm1;refine ⟨_,rfl,?_⟩;exact ⟨s2,s10,s11,(by first|(simp only [go_sem,s12,lA9,mA9]; done)|rfl)⟩
   ·rw [b0q hc7] at hm1;simp only [b09,b1b,b1a,c0s,b02,b0f,Nat.reduceEqDiff,nF9];obtain rfl:=sI9 hm1;obtain rfl:=hb5 _ rfl
    try dsimp only at hm0
    exact J4  _ _  hm0
theorem d3g (hf:Has O "newel/situation.Asked$1" x_situation_AskedD1) (d3l:d0o O):d0j O:=by
 intro x c0 r hm0;unfold b82 at hm0;refine b1i hf rfl (b0a (.agg _ (b0a (b0e _) (b0a (b0e _) (b0a (b0e _) (b0a (b0e _) b0j))))) (b0a (.fp _ _ (b0a (b0c fun a _=>b0z a) (b0a (b0c fun a _=>b0z a) (b0a (b0c fun a _=>b1q a) (b0a (b0c fun a _=>b1s a) (b0a (b0c fun a _=>b1r a) b0j)))))) b0j)) (b0e _) ?_;refine b1c (fun t h=>t 0 = .agg [I x.Kind,I x.Number,I x.Value,B x.Not]/\t 1 = .fp (vM c0) 0) ⟨rfl,rfl⟩ fun t h ⟨s0,s1⟩=>?_;simp only [x_situation_AskedD1];apply b0b;intro K hK;simp only [go_sem,s0];apply hK;obtain ⟨y2,h_y2,hm0⟩:=b0g hm0;apply b0b;intro K hK;simp only [go_sem,s1];refine b01 (d3l c0 x _ h_y2) ?_;simp only [go_sem,s1];apply hK;simp only [b0x,b1p,b2e,b0y];obtain rfl:=sI9 hm0;exact b04 vb9 (b0e _)
theorem d3h (hf:Has O "newel/situation.Check" x_situation_Check) (b4q:c5u O) (d3m:d0p O) (c3p:c5t O) (b8n:c1o O) (d3i:d0l O):d0k O:=by
 intro m r hm0;unfold c4v at hm0;refine b1i hf rfl (b0a (fM _) b0j) (b0e _) ?_;refine b1c (fun t h=>t 0 = .agg (vM m)) rfl fun t h s0=>?_;simp only [x_situation_Check];apply b0b;intro K hK;simp only [go_sem,s0];apply hK;refine b0v ?_;obtain ⟨c4,h_c4,hm0⟩:=b0g hm0;refine b2p (fun t h=>t 1 = .fp (vM m) 0/\t 46=B c4) (fun K hK=>?_) ?_
 ·simp only [go_sem];refine b0k (fun hg5=>?_) (fun hg5=>?_)
  ·simp only [hg5,Bool.not_true,Bool.not_false,eq_self,if_true,if_false,Bool.true_or,Bool.or_true,Bool.false_or,Bool.or_false,Bool.true_and,Bool.and_true,Bool.false_and,Bool.and_false,fT9] at h_c4;obtain rfl:=sI9 h_c4;simp only [go_sem,hg5];exact hK _ _ ⟨(by first|(simp only [go_sem,hg5,lA9,mA9]; done)|rfl),(by first|(simp only [go_sem,hg5,lA9,mA9]; done)|rfl)⟩
  ·simp only [go_sem,hg5];refine b0k (fun hg6=>?_) (fun hg6=>?_)
   ·simp only [hg5,hg6,Bool.not_true,Bool.not_false,eq_self,if_true,if_false,Bool.true_or,Bool.or_true,Bool.false_or,Bool.or_false,Bool.true_and,Bool.and_true,Bool.false_and,Bool.and_false,fT9] at h_c4;obtain rfl:=sI9 h_c4;simp only [go_sem,hg5,hg6];exact hK _ _ ⟨(by first|(simp only [go_sem,hg5,hg6,lA9,mA9]; done)|rfl),(by first|(simp only [go_sem,hg5,hg6,lA9,mA9]; done)|rfl)⟩
   ·simp only [go_sem,hg5,hg6];refine b0k (fun hg7=>?_) (fun hg7=>?_)
    ·simp only [hg5,hg6,hg7,Bool.not_true,Bool.not_false,eq_self,if_true,if_false,Bool.true_or,Bool.or_true,Bool.false_or,Bool.or_false,Bool.true_and,Bool.and_true,Bool.false_and,Bool.and_false,fT9] at h_c4;obtain rfl:=sI9 h_c4;simp only [go_sem,hg5,hg6,hg7];exact hK _ _ ⟨(by first|(simp only [go_sem,hg5,hg6,hg7,lA9,mA9]; done)|rfl),(by first|(simp only [go_sem,hg5,hg6,hg7,lA9,mA9]; done)|rfl)⟩
    ·simp only [go_sem,hg5,hg6,hg7];refine b01 (b4q (List.length m.States:Int) 1 12) ?_;simp only [go_sem,hg5,hg6,hg7];refine b0k (fun hg8=>?_) (fun hg8=>?_)
     ·simp only [hg5,hg6,hg7,hg8,Bool.not_true,Bool.not_false,eq_self,if_true,if_false,Bool.true_or,Bool.or_true,Bool.false_or,Bool.or_false,Bool.true_and,Bool.and_true,Bool.false_and,Bool.and_false,fT9] at h_c4;obtain rfl:=sI9 h_c4;simp only [go_sem,hg5,hg6,hg7,hg8];exact hK _ _ ⟨(by first|(simp only [go_sem,hg5,hg6,hg7,hg8,lA9,mA9]; done)|rfl),(by first|(simp only [go_sem,hg5,hg6,hg7,hg8,lA9,mA9]; done)|rfl)⟩
     ·simp only [go_sem,hg5,hg6,hg7,hg8];refine b0k (fun hg9=>?_) (fun hg9=>?_)
      ·simp only [hg5,hg6,hg7,hg8,hg9,Bool.not_true,Bool.not_false,eq_self,if_true,if_false,Bool.true_or,Bool.or_true,Bool.false_or,Bool.or_false,Bool.true_and,Bool.and_true,Bool.false_and,Bool.and_false,fT9] at h_c4;obtain rfl:=sI9 h_c4;simp only [go_sem,hg5,hg6,hg7,hg8,hg9];exact hK _ _ ⟨(by first|(simp only [go_sem,hg5,hg6,hg7,hg8,hg9,lA9,mA9]; done)|rfl),(by first|(simp only [go_sem,hg5,hg6,hg7,hg8,hg9,lA9,mA9]; done)|rfl)⟩
      ·simp only [hg5,hg6,hg7,hg8,hg9,Bool.not_true,Bool.not_false,eq_self,if_true,if_false,Bool.true_or,Bool.or_true,Bool.false_or,Bool.or_false,Bool.true_and,Bool.and_true,Bool.false_and,Bool.and_false,fT9] at h_c4;obtain ⟨y3,h_y3,h_c4⟩:=b0g h_c4;obtain rfl:=sI9 h_c4;simp only [go_sem,hg5,hg6,hg7,hg8,hg9];refine b01 (d3m m _ h_y3) ?_;simp only [go_sem,hg5,hg6,hg7,hg8,hg9];exact hK _ _ ⟨(by first|(simp only [go_sem,hg5,hg6,hg7,hg8,hg9,lA9,mA9]; done)|rfl),(by first|(simp only [go_sem,hg5,hg6,hg7,hg8,hg9,lA9,mA9]; done)|rfl)⟩
 ·rintro t h ⟨s1,s46⟩;refine b0i fun K10 hK10=>?_;simp only [go_sem,s46];refine b0k (fun hc11=>?_) (fun hc11=>?_)
  ·rw [b0r hc11] at hm0;apply b0b;intro K hK;simp only [go_sem];apply hK;simp only [b0x,b1p,b2e,b0y];obtain rfl:=sI9 hm0;exact b04 vb9 (b0e _)
  ·rw [b0q hc11] at hm0;simp only [b0s,b02,b0f];refine hK10 _ _ ?_;refine b0v ?_;apply b0b;intro K hK;simp only [go_sem,s1];apply hK;refine b0i fun K12 hK12=>?_
   have J13:∀ (t:Slots) (h:Heap),t 1 = .fp (vM m) 0->p84 m=some r->K12 t h:=by
    intro t h s1 hm0;refine hK12 _ _ ?_;unfold p84 at hm0;refine b0v ?_;apply b0b;intro K hK;simp only [go_sem,s1];apply hK;refine b0i fun K14 hK14=>?_
    have J15:∀ (t:Slots) (h:Heap),t 1 = .fp (vM m) 0->c85 m=some r->K14 t h:=by
     intro t h s1 hm0;refine hK14 _ _ ?_;unfold c85 at hm0;refine b0v ?_;apply b0b;intro K hK;simp only [go_sem,s1];apply hK;refine b0i fun K16 hK16=>?_
     have J17:∀ (t:Slots) (h:Heap),d47=some r->K16 t h:=by
      intro t h hm0;refine hK16 _ _ ?_;unfold d47 at hm0;apply b0b;intro K hK;simp only [go_sem];apply hK;simp only [b0x,b1p,b2e,b0y];obtain rfl:=sI9 hm0;exact b04 vb9 (b0e _)
     simp only [b0u];obtain ⟨b18,hl18,hm0⟩:=b0g hm0;refine b1j hl18 (fun|x_79,t,h=>t 1 = .fp (vM m) 0/\t 77 = .fs 4 (List.map b0m m.Rules)/\t 78=I (List.length m.Rules:Int)/\t 79=I x_79) ?_ ?_
     ·exact ⟨s1,va9,va9,va9⟩
     ·rintro x_79 o t h ⟨s1,s77,s78,s79⟩ hm1 hb18;simp only [b83] at hm1;rw [g49];apply b0b;intro K hK;simp only [go_sem,s78,s79];apply hK;refine b0i fun K19 hK19=>?_;simp only [go_sem];refine b0k (fun hc20=>?_) (fun hc20=>?_)
      ·rw [b0r hc20] at hm1;simp only [b0s,b02,b0f];refine hK19 _ _ ?_;refine b0i fun K21 hK21=>?_
       have J22:∀ (t:Slots) (h:Heap),t 1 = .fp (vM m) 0->t 77 = .fs 4 (List.map b0m m.Rules)->t 78=I (List.length m.Rules:Int)->t 79=I x_79->c86 x_79=some o->K21 t h:=by
        intro t h s1 s77 s78 s79 hm1;refine hK21 _ _ ?_;unfold c86 at hm1;apply b03;intro K hK;simp only [go_sem,s79];apply hK;simp only [b02,b0f];obtain rfl:=sI9 hm1;refine ⟨_,rfl,?_⟩;exact ⟨s1,s77,s78,(by first|(simp only [go_sem,s79,lA9,mA9]; done)|rfl)⟩
       simp only [b0u];obtain ⟨x24,h_x24,hm1⟩:=b0g hm1;have h_x240:=b05 h_x24;have h_x241:=b06 h_x24;apply b0b;intro K hK;simp only [go_sem,s77,s79,b08 h_x24,b3n h_x24,h_x240,h_x241];apply hK;refine b0v ?_;obtain ⟨c28,h_c28,hm1⟩:=b0g hm1;refine b2p (fun t h=>∃ i8:Nat,t 1 = .fp (vM m) 0/\t 8 = .rp i8 0 0/\t 77 = .fs 4 (List.map b0m m.Rules)/\t 78=I (List.length m.Rules:Int)/\t 79=I x_79/\t 113=B (c28 || (decide (4<(List.length x24.Sets:Int))))/\h.ob i8=some (4,[[I x24.From,I x24.To,.fs 1 (List.map b0t x24.When),.fs 2 (List.map b2o x24.Sets)]])/\i8<h.nx) (fun K hK=>?_) ?_
       ·simp only [go_sem,s1];refine b01 (b4q x24.From (-1) (wr ((List.length m.States:Int) - 1))) ?_;simp only [go_sem,s1];refine b0k (fun hg29=>?_) (fun hg29=>?_)
        ·simp only [hg29,Bool.not_true,Bool.not_false,eq_self,if_true,if_false,Bool.true_or,Bool.or_true,Bool.false_or,Bool.or_false,Bool.true_and,Bool.and_true,Bool.false_and,Bool.and_false,fT9] at h_c28;obtain rfl:=sI9 h_c28;simp only [go_sem,s1,hg29];exact hK _ _ ⟨h.nx,s1,(by first|(simp only [go_sem,hg29,lA9,mA9]; done)|rfl),s77,s78,s79,(by first|(simp only [go_sem,hg29,lA9,mA9]; done)|rfl),(by simp only [go_sem,hg29,lA9,mA9]),vh9⟩
        ·simp only [go_sem,s1,hg29];refine b01 (b4q x24.To 0 (wr ((List.length m.States:Int) - 1))) ?_;simp only [go_sem,s1,hg29];refine b0k (fun hg30=>?_) (fun hg30=>?_)
         ·simp only [hg29,hg30,Bool.not_true,Bool.not_false,eq_self,if_true,if_false,Bool.true_or,Bool.or_true,Bool.false_or,Bool.or_false,Bool.true_and,Bool.and_true,Bool.false_and,Bool.and_false,fT9] at h_c28;obtain rfl:=sI9 h_c28;simp only [go_sem,s1,hg29,hg30];exact hK _ _ ⟨h.nx,s1,(by first|(simp only [go_sem,hg29,hg30,lA9,mA9]; done)|rfl),s77,s78,s79,(by first|(simp only [go_sem,hg29,hg30,lA9,mA9]; done)|rfl),(by simp only [go_sem,hg29,hg30,lA9,mA9]),vh9⟩
         ·simp only [hg29,hg30,Bool.not_true,Bool.not_false,eq_self,if_true,if_false,Bool.true_or,Bool.or_true,Bool.false_or,Bool.or_false,Bool.true_and,Bool.and_true,Bool.false_and,Bool.and_false,fT9] at h_c28;obtain ⟨y27,h_y27,h_c28⟩:=b0g h_c28;obtain rfl:=sI9 h_c28;simp only [go_sem,s1,hg29,hg30];refine b01 (c3p m x24.When _ h_y27) ?_;simp only [go_sem,s1,hg29,hg30];refine b0k (fun hg31=>?_) (fun hg31=>?_)
          ·simp only [go_sem,s1,hg29,hg30,hg31];exact hK _ _ ⟨h.nx,s1,(by first|(simp only [go_sem,hg29,hg30,hg31,lA9,mA9]; done)|rfl),s77,s78,s79,(by first|(simp only [go_sem,hg29,hg30,hg31,lA9,mA9]; done)|rfl),(by simp only [go_sem,hg29,hg30,hg31,lA9,mA9]),vh9⟩
          ·simp only [go_sem,s1,hg29,hg30,hg31];exact hK _ _ ⟨h.nx,s1,(by first|(simp only [go_sem,hg29,hg30,hg31,lA9,mA9]; done)|rfl),s77,s78,s79,(by first|(simp only [go_sem,hg29,hg30,hg31,lA9,mA9]; done)|rfl),(by simp only [go_sem,hg29,hg30,hg31,lA9,mA9]),vh9⟩
       ·rintro t h ⟨i8,s1,s8,s77,s78,s79,s113,Q4,Q3⟩;refine b0i fun K32 hK32=>?_;simp only [go_sem,s113];refine b0k (fun hc33=>?_) (fun hc33=>?_)
        ·rw [b0r hc33] at hm1;apply b0b;intro K hK;simp only [go_sem,Q3];apply hK;simp only [b0x,b1p,b2e,b0y];obtain rfl:=sI9 hm1;obtain rfl:=hb18 _ rfl
         try dsimp only at hm0
         obtain rfl:=sI9 hm0;exact b04 (by simp only [go_sem,Q4,Q3,lA9,mA9]) (b0e _)
        ·rw [b0q hc33] at hm1;simp only [b0s,b02,b0f];refine hK32 _ _ ?_;refine b0v ?_;apply b0b;intro K hK;simp only [go_sem,s8,Q4,Q3];apply hK;refine b0i fun K34 hK34=>?_
         have J35:∀ (t:Slots) (h:Heap),t 1 = .fp (vM m) 0->t 8 = .rp i8 0 0->t 77 = .fs 4 (List.map b0m m.Rules)->t 78=I (List.length m.Rules:Int)->t 79=I x_79->h.ob i8=some (4,[[I x24.From,I x24.To,.fs 1 (List.map b0t x24.When),.fs 2 (List.map b2o x24.Sets)]])->i8<h.nx->c87 m x_79 x24=some o->K34 t h:=by
          intro t h s1 s8 s77 s78 s79 Q4 Q3 hm1;refine hK34 _ _ ?_;unfold c87 at hm1;apply b0b;intro K hK;simp only [go_sem,s8,Q4,Q3];apply hK;simp only [b0u];obtain ⟨b36,hl36,hm1⟩:=b0g hm1;refine b1j hl36 (fun|x_127,t,h=>t 1 = .fp (vM m) 0/\t 77 = .fs 4 (List.map b0m m.Rules)/\t 78=I (List.length m.Rules:Int)/\t 79=I x_79/\t 125 = .fs 2 (List.map b2o x24.Sets)/\t 126=I (List.length x24.Sets:Int)/\t 127=I x_127) ?_ ?_
          ·exact ⟨s1,s77,s78,s79,va9,va9,va9⟩
          ·rintro x_127 o t h ⟨s1,s77,s78,s79,s125,s126,s127⟩ hm2 hb36;simp only [c4y] at hm2;rw [g48];apply b0b;intro K hK;simp only [go_sem,s126,s127];apply hK;refine b0i fun K37 hK37=>?_;simp only [go_sem];refine b0k (fun hc38=>?_) (fun hc38=>?_)
           ·rw [b0r hc38] at hm2;simp only [b0s,b02,b0f];refine hK37 _ _ ?_;refine b0i fun K39 hK39=>?_;simp only [b0u];obtain ⟨x41,h_x41,hm2⟩:=b0g hm2;have h_x410:=b05 h_x41;have h_x411:=b06 h_x41;apply b0b;intro K hK;simp only [go_sem,s125,s127,b08 h_x41,b3n h_x41,h_x410,h_x411];apply hK;refine b2p (fun t h=>t 1 = .fp (vM m) 0/\t 77 = .fs 4 (List.map b0m m.Rules)/\t 78=I (List.length m.Rules:Int)/\t 79=I x_79/\t 125 = .fs 2 (List.map b2o x24.Sets)/\t 126=I (List.length x24.Sets:Int)/\t 127=I x_127/\t 144=B ((!(b2q x41.Kind 1 3)) || (!(b2q x41.Counter 0 (wr ((List.length m.Counters:Int) - 1)))))) (fun K hK=>?_) ?_
            ·simp only [go_sem,s1];refine b01 (b4q x41.Kind 1 3) ?_;simp only [go_sem,s1];refine b0k (fun hg42=>?_) (fun hg42=>?_)
             ·simp only [go_sem,s1,hg42];exact hK _ _ ⟨s1,s77,s78,s79,s125,s126,s127,(by first|(simp only [go_sem,hg42,lA9,mA9]; done)|rfl)⟩
             ·simp only [go_sem,s1,hg42];refine b01 (b4q x41.Counter 0 (wr ((List.length m.Counters:Int) - 1))) ?_;simp only [go_sem,s1,hg42];exact hK _ _ ⟨s1,s77,s78,s79,s125,s126,s127,(by first|(simp only [go_sem,hg42,lA9,mA9]; done)|rfl)⟩
            ·rintro t h ⟨s1,s77,s78,s79,s125,s126,s127,s144⟩;simp only [go_sem,s144];refine b0k (fun hc43=>?_) (fun hc43=>?_)
             ·rw [b0r hc43] at hm2;apply b0b;intro K hK;simp only [go_sem];apply hK;simp only [b0x,b1p,b2e,b0y];obtain rfl:=sI9 hm2;obtain rfl:=hb36 _ rfl
              try dsimp only at hm1
              obtain rfl:=sI9 hm1;obtain rfl:=hb18 _ rfl
              try dsimp only at hm0
              obtain rfl:=sI9 hm0;exact b04 vb9 (b0e _)
             ·rw [b0q hc43] at hm2;simp only [b0s,b02,b0f];refine hK39 _ _ ?_;apply b03;intro K hK;simp only [go_sem,s127];apply hK;simp only [b02,b0f];obtain rfl:=sI9 hm2;refine ⟨_,rfl,?_⟩;exact ⟨s1,s77,s78,s79,s125,s126,(by first|(simp only [go_sem,s127,lA9,mA9]; done)|rfl)⟩
           ·rw [b0q hc38] at hm2;simp only [b09,b1b,b1a,c0s,b02,b0f,Nat.reduceEqDiff,nF9];obtain rfl:=sI9 hm2;obtain rfl:=hb36 _ rfl
            try dsimp only at hm1
            exact J22  _ _ s1 s77 s78 s79 hm1
         simp only [b0u];obtain ⟨b45,hl45,hm1⟩:=b0g hm1;refine b1j hl45 (fun|x_117,t,h=>t 1 = .fp (vM m) 0/\t 8 = .rp i8 0 0/\t 77 = .fs 4 (List.map b0m m.Rules)/\t 78=I (List.length m.Rules:Int)/\t 79=I x_79/\t 115 = .fs 1 (List.map b0t x24.When)/\t 116=I (List.length x24.When:Int)/\t 117=I x_117/\h.ob i8=some (4,[[I x24.From,I x24.To,.fs 1 (List.map b0t x24.When),.fs 2 (List.map b2o x24.Sets)]])/\i8<h.nx) ?_ ?_
         ·exact ⟨s1,s8,s77,s78,s79,va9,va9,va9,Q4,Q3⟩
         ·rintro x_117 o t h ⟨s1,s8,s77,s78,s79,s115,s116,s117,Q4,Q3⟩ hm2 hb45;simp only [c4x] at hm2;rw [g47];apply b0b;intro K hK;simp only [go_sem,s116,s117,Q3];apply hK;refine b0i fun K46 hK46=>?_;simp only [go_sem];refine b0k (fun hc47=>?_) (fun hc47=>?_)
          ·rw [b0r hc47] at hm2;simp only [b0s,b02,b0f];refine hK46 _ _ ?_;refine b0i fun K48 hK48=>?_;simp only [b0u];obtain ⟨x50,h_x50,hm2⟩:=b0g hm2;have h_x500:=b05 h_x50;have h_x501:=b06 h_x50;apply b0b;intro K hK;simp only [go_sem,s115,s117,Q3,b08 h_x50,b3n h_x50,h_x500,h_x501];apply hK;obtain ⟨y54,h_y54,hm2⟩:=b0g hm2;apply b0b;intro K hK;simp only [go_sem,Q3];refine b01 (b8n x50 "newel/situation.Check$1" [] [] (fun z53=>some (b7s z53)) (.fn _ _ _ b0j b0j) (fun z0 y hz=>by cases hz; exact d3i z0) _ h_y54) ?_;simp only [go_sem,Q3];apply hK;simp only [go_sem];refine b0k (fun hc55=>?_) (fun hc55=>?_)
           ·rw [b0r hc55] at hm2;apply b0b;intro K hK;simp only [go_sem,Q3];apply hK;simp only [b0x,b1p,b2e,b0y];obtain rfl:=sI9 hm2;obtain rfl:=hb45 _ rfl
            try dsimp only at hm1
            obtain rfl:=sI9 hm1;obtain rfl:=hb18 _ rfl
            try dsimp only at hm0
            obtain rfl:=sI9 hm0;exact b04 (by simp only [go_sem,Q4,Q3,lA9,mA9]) (b0e _)
           ·rw [b0q hc55] at hm2;simp only [b0s,b02,b0f];refine hK48 _ _ ?_;apply b03;intro K hK;simp only [go_sem,s117,Q3];apply hK;simp only [b02,b0f];obtain rfl:=sI9 hm2;refine ⟨_,rfl,?_⟩;exact ⟨s1,s8,s77,s78,s79,s115,s116,(by first|(simp only [go_sem,s117,lA9,mA9]; done)|rfl),Q4,Q3⟩
          ·rw [b0q hc47] at hm2;simp only [b09,b1b,b1a,c0s,b02,b0f,Nat.reduceEqDiff,nF9];obtain rfl:=sI9 hm2;obtain rfl:=hb45 _ rfl
           try dsimp only at hm1
           exact J35  _ _ s1 s8 s77 s78 s79 Q4 Q3 hm1
      ·rw [b0q hc20] at hm1;simp only [b09,b1b,b1a,c0s,b02,b0f,Nat.reduceEqDiff,nF9];obtain rfl:=sI9 hm1;obtain rfl:=hb18 _ rfl
       try dsimp only at hm0
       exact J17  _ _  hm0
    simp only [b0u];obtain ⟨b58,hl58,hm0⟩:=b0g hm0;refine b1j hl58 (fun|x_62,t,h=>t 1 = .fp (vM m) 0/\t 60 = .fs 2 (List.map b0p m.States)/\t 61=I (List.length m.States:Int)/\t 62=I x_62) ?_ ?_
    ·exact ⟨s1,va9,va9,va9⟩
    ·rintro x_62 o t h ⟨s1,s60,s61,s62⟩ hm1 hb58;simp only [c4w] at hm1;rw [g46];apply b0b;intro K hK;simp only [go_sem,s61,s62];apply hK;refine b0i fun K59 hK59=>?_;simp only [go_sem];refine b0k (fun hc60=>?_) (fun hc60=>?_)
     ·rw [b0r hc60] at hm1;simp only [b0s,b02,b0f];refine hK59 _ _ ?_;refine b0i fun K61 hK61=>?_;simp only [b0u];obtain ⟨x63,h_x63,hm1⟩:=b0g hm1;have h_x630:=b05 h_x63;have h_x631:=b06 h_x63;apply b0b;intro K hK;simp only [go_sem,s60,s62,b08 h_x63,b3n h_x63,h_x630,h_x631];apply hK;obtain ⟨q65,h_q65,hm1⟩:=b0g hm1;apply b0b;intro K hK;simp only [go_sem,s1,B8s h_q65];refine b01 (b4q x63.Shows 0 (wr (q65 - 1))) ?_;simp only [go_sem,s1,B8s h_q65];apply hK;simp only [go_sem];refine b0k (fun hc66=>?_) (fun hc66=>?_)
      ·rw [b0r hc66] at hm1;apply b0b;intro K hK;simp only [go_sem];apply hK;simp only [b0x,b1p,b2e,b0y];obtain rfl:=sI9 hm1;obtain rfl:=hb58 _ rfl
       try dsimp only at hm0
       obtain rfl:=sI9 hm0;exact b04 vb9 (b0e _)
      ·rw [b0q hc66] at hm1;simp only [b0s,b02,b0f];refine hK61 _ _ ?_;apply b03;intro K hK;simp only [go_sem,s62];apply hK;simp only [b02,b0f];obtain rfl:=sI9 hm1;refine ⟨_,rfl,?_⟩;exact ⟨s1,s60,s61,(by first|(simp only [go_sem,s62,lA9,mA9]; done)|rfl)⟩
     ·rw [b0q hc60] at hm1;simp only [b09,b1b,b1a,c0s,b02,b0f,Nat.reduceEqDiff,nF9];obtain rfl:=sI9 hm1;obtain rfl:=hb58 _ rfl
      try dsimp only at hm0
      exact J15  _ _ s1 hm0
   simp only [b0u];obtain ⟨b68,hl68,hm0⟩:=b0g hm0;refine b1j hl68 (fun|x_50,t,h=>t 1 = .fp (vM m) 0/\t 48 = .fs 2 (List.map b0o m.Counters)/\t 49=I (List.length m.Counters:Int)/\t 50=I x_50) ?_ ?_
   ·exact ⟨s1,va9,va9,va9⟩
   ·rintro x_50 o t h ⟨s1,s48,s49,s50⟩ hm1 hb68;simp only [c4z] at hm1;rw [g5a];apply b0b;intro K hK;simp only [go_sem,s49,s50];apply hK;refine b0i fun K69 hK69=>?_;simp only [go_sem];refine b0k (fun hc70=>?_) (fun hc70=>?_)
    ·rw [b0r hc70] at hm1;simp only [b0s,b02,b0f];refine hK69 _ _ ?_;refine b0i fun K71 hK71=>?_;simp only [b0u];obtain ⟨x73,h_x73,hm1⟩:=b0g hm1;have h_x730:=b05 h_x73;have h_x731:=b06 h_x73;apply b0b;intro K hK;simp only [go_sem,s48,s50,b08 h_x73,b3n h_x73,h_x730,h_x731];apply hK;apply b0b;intro K hK;simp only [go_sem];refine b01 (b4q x73.Max 1 7) ?_;simp only [go_sem];apply hK;simp only [go_sem];refine b0k (fun hc74=>?_) (fun hc74=>?_)
     ·rw [b0r hc74] at hm1;apply b0b;intro K hK;simp only [go_sem];apply hK;simp only [b0x,b1p,b2e,b0y];obtain rfl:=sI9 hm1;obtain rfl:=hb68 _ rfl
      try dsimp only at hm0
      obtain rfl:=sI9 hm0;exact b04 vb9 (b0e _)
     ·rw [b0q hc74] at hm1;simp only [b0s,b02,b0f];refine hK71 _ _ ?_;apply b03;intro K hK;simp only [go_sem,s50];apply hK;simp only [b02,b0f];obtain rfl:=sI9 hm1;refine ⟨_,rfl,?_⟩;exact ⟨s1,s48,s49,(by first|(simp only [go_sem,s50,lA9,mA9]; done)|rfl)⟩
    ·rw [b0q hc70] at hm1;simp only [b09,b1b,b1a,c0s,b02,b0f,Nat.reduceEqDiff,nF9];obtain rfl:=sI9 hm1;obtain rfl:=hb68 _ rfl
     try dsimp only at hm0
     exact J13  _ _ s1 hm0
theorem d3i (hf:Has O "newel/situation.Check$1" x_situation_CheckD1):d0l O:=by
 intro x;generalize hm0:b7s x=r;unfold b7s at hm0;refine b1i hf rfl (b0a (.agg _ (b0a (b0e _) (b0a (b0e _) (b0a (b0e _) (b0a (b0e _) b0j))))) b0j) (b0e _) ?_;refine b1c (fun t h=>t 0 = .agg [I x.Kind,I x.Number,I x.Value,B x.Not]) rfl fun t h s0=>?_;simp only [x_situation_CheckD1];apply b0b;intro K hK;simp only [go_sem,s0];apply hK;apply b0b;intro K hK;simp only [go_sem];apply hK;simp only [b0x,b1p,b2e,b0y];obtain rfl:=hm0;exact b04 vb9 (b0e _)
theorem d3j (hf:Has O "newel/situation.Plain" x_situation_Plain):d0m O:=by
 intro word r hm0;unfold r1j at hm0;refine b1i hf rfl (b0a (b0e _) b0j) (b0e _) ?_;refine b1c (fun t h=>t 0 = .v (.string word)) rfl fun t h s0=>?_;simp only [x_situation_Plain];apply b0b;intro K hK;simp only [go_sem];apply hK;refine b0v ?_;apply b0b;intro K hK;simp only [go_sem,s0];refine j5y (O:=O) ?_;simp only [go_sem,s0];apply hK;refine b0i fun K1 hK1=>?_
 have J2:∀ (t:Slots) (h:Heap),t 0 = .v (.string word)->d48 word=some r->K1 t h:=by
  intro t h s0 hm0;refine hK1 _ _ ?_;unfold d48 at hm0;apply b0b;intro K hK;simp only [go_sem,s0];apply hK;simp only [b0x,b1p,b2e,b0y];obtain rfl:=sI9 hm0;exact b04 vb9 (b0e _)
 simp only [b0u];obtain ⟨b3,hl3,hm0⟩:=b0g hm0;refine b1j hl3 (fun|x_8,t,h=>t 0 = .v (.string word)/\t 6 = .fs 1 (List.map c2m (b3q word))/\t 7=I (List.length (b3q word):Int)/\t 8=I x_8) ?_ ?_
 ·exact ⟨s0,va9,va9,va9⟩
 ·rintro x_8 o t h ⟨s0,s6,s7,s8⟩ hm1 hb3;simp only [c42] at hm1;rw [g5b];apply b0b;intro K hK;simp only [go_sem,s7,s8];apply hK;refine b0i fun K4 hK4=>?_;simp only [go_sem];refine b0k (fun hc5=>?_) (fun hc5=>?_)
  ·rw [b0r hc5] at hm1;simp only [b0s,b02,b0f];refine hK4 _ _ ?_;refine b0i fun K6 hK6=>?_;simp only [b0u];obtain ⟨x8,h_x8,hm1⟩:=b0g hm1;have h_x80:=b05 h_x8;have h_x81:=b06 h_x8;apply b0b;intro K hK;simp only [go_sem,s6,s8,b08 h_x8,b3n h_x8,h_x80,h_x81];apply hK;refine b2p (fun t h=>t 0 = .v (.string word)/\t 6 = .fs 1 (List.map c2m (b3q word))/\t 7=I (List.length (b3q word):Int)/\t 8=I x_8/\t 17=B ((decide (x8<97)) || (decide (122<x8)))) (fun K hK=>?_) ?_
   ·simp only [go_sem];refine b0k (fun hg9=>?_) (fun hg9=>?_)
    ·simp only [go_sem,hg9];exact hK _ _ ⟨s0,s6,s7,s8,(by first|(simp only [go_sem,hg9,lA9,mA9]; done)|rfl)⟩
    ·simp only [go_sem,hg9];exact hK _ _ ⟨s0,s6,s7,s8,(by first|(simp only [go_sem,hg9,lA9,mA9]; done)|rfl)⟩
   ·rintro t h ⟨s0,s6,s7,s8,s17⟩;simp only [go_sem,s17];refine b0k (fun hc10=>?_) (fun hc10=>?_)
    ·rw [b0r hc10] at hm1;apply b0b;intro K hK;simp only [go_sem];apply hK;simp only [b0x,b1p,b2e,b0y];obtain rfl:=sI9 hm1;obtain rfl:=hb3 _ rfl
     try dsimp only at hm0
     obtain rfl:=sI9 hm0;exact b04 vb9 (b0e _)
    ·rw [b0q hc10] at hm1;simp only [b0s,b02,b0f];refine hK6 _ _ ?_;apply b03;intro K hK;simp only [go_sem,s8];apply hK;simp only [b02,b0f];obtain rfl:=sI9 hm1;refine ⟨_,rfl,?_⟩;exact ⟨s0,s6,s7,(by first|(simp only [go_sem,s8,lA9,mA9]; done)|rfl)⟩
  ·rw [b0q hc5] at hm1;simp only [b09,b1b,b1a,c0s,b02,b0f,Nat.reduceEqDiff,nF9];obtain rfl:=sI9 hm1;obtain rfl:=hb3 _ rfl
   try dsimp only at hm0
   exact J2  _ _ s0 hm0
theorem d3k (hf:Has O "newel/situation.Reserved" x_situation_Reserved):d0n O:=by
 intro word;generalize hm0:b84 word=r;unfold b84 at hm0;refine b1i hf rfl (b0a (b0e _) b0j) (b0e _) ?_;refine b1c (fun t h=>t 0 = .v (.string word)) rfl fun t h s0=>?_;simp only [x_situation_Reserved];apply b0b;intro K hK;simp only [go_sem];apply hK;refine b0v ?_;apply b0b;intro K hK;simp only [go_sem,s0];apply hK;refine b0i fun K1 hK1=>?_;simp only [b0u];refine b0v ?_;apply b0b;intro K hK;simp only [go_sem];apply hK;refine b0i fun K2 hK2=>?_
 have J3:∀ (x_4:Bool) (t:Slots) (h:Heap),t 4=B x_4->b5w x_4=r->K2 t h:=by
  intro x_4 t h s4 hm0;refine hK2 _ _ ?_;unfold b5w at hm0;simp only [go_sem,s4];refine b0k (fun hc4=>?_) (fun hc4=>?_)
  ·rw [b0r hc4] at hm0;apply b0b;intro K hK;simp only [go_sem];apply hK;simp only [b0x,b1p,b2e,b0y];obtain rfl:=hm0;exact b04 vb9 (b0e _)
  ·rw [b0q hc4] at hm0;simp only [b0s,b02,b0f];refine hK1 _ _ ?_;apply b0b;intro K hK;simp only [go_sem];apply hK;simp only [b0x,b1p,b2e,b0y];obtain rfl:=hm0;exact b04 vb9 (b0e _)
 simp only [go_sem];refine b0k (fun hc5=>?_) (fun hc5=>?_)
 ·rw [b0r hc5] at hm0;simp only [b0s,b02,b0f];exact J3 (decide (word=(ByteArray.mk #[97,110,121]))) _ _ va9 hm0
 ·rw [b0q hc5] at hm0;apply b0b;intro K hK;simp only [go_sem];apply hK;simp only [go_sem];refine b0k (fun hc6=>?_) (fun hc6=>?_)
  ·rw [b0r hc6] at hm0;simp only [b0s,b02,b0f];exact J3 (decide (word=(ByteArray.mk #[116,111]))) _ _ va9 hm0
  ·rw [b0q hc6] at hm0;apply b0b;intro K hK;simp only [go_sem];apply hK;simp only [go_sem];refine b0k (fun hc7=>?_) (fun hc7=>?_)
   ·rw [b0r hc7] at hm0;simp only [b0s,b02,b0f];exact J3 (decide (word=(ByteArray.mk #[122,101,114,111]))) _ _ va9 hm0
   ·rw [b0q hc7] at hm0;apply b0b;intro K hK;simp only [go_sem];apply hK;simp only [go_sem];refine b0k (fun hc8=>?_) (fun hc8=>?_)
    ·rw [b0r hc8] at hm0;simp only [b0s,b02,b0f];exact J3 (decide (word=(ByteArray.mk #[109,111,114,101]))) _ _ va9 hm0
    ·rw [b0q hc8] at hm0;apply b0b;intro K hK;simp only [go_sem];apply hK;simp only [go_sem];refine b0k (fun hc9=>?_) (fun hc9=>?_)
     ·rw [b0r hc9] at hm0;simp only [b0s,b02,b0f];exact J3 (decide (word=(ByteArray.mk #[108,101,115,115]))) _ _ va9 hm0
     ·rw [b0q hc9] at hm0;apply b0b;intro K hK;simp only [go_sem];apply hK;simp only [go_sem];refine b0k (fun hc10=>?_) (fun hc10=>?_)
      ·rw [b0r hc10] at hm0;simp only [b0s,b02,b0f];exact J3 (decide (word=(ByteArray.mk #[105,102]))) _ _ va9 hm0
      ·rw [b0q hc10] at hm0;apply b0b;intro K hK;simp only [go_sem];apply hK;simp only [go_sem];refine b0k (fun hc11=>?_) (fun hc11=>?_)
       ·rw [b0r hc11] at hm0;simp only [b0s,b02,b0f];exact J3 (decide (word=(ByteArray.mk #[121,101,115]))) _ _ va9 hm0
       ·rw [b0q hc11] at hm0;apply b03;intro K hK;simp only [go_sem];apply hK;simp only [b02,b0f];exact J3 (decide (word=(ByteArray.mk #[110,111]))) _ _ va9 hm0
theorem d3l (hf:Has O "newel/situation.asks" x_situation_asks) (b4q:c5u O):d0o O:=by
 intro m x r hm0;unfold c43 at hm0;refine b1i hf rfl (b0a (fM _) (b0a (.agg _ (b0a (b0e _) (b0a (b0e _) (b0a (b0e _) (b0a (b0e _) b0j))))) b0j)) (b0e _) ?_;refine b1c (fun t h=>t 0 = .agg (vM m)/\t 1 = .agg [I x.Kind,I x.Number,I x.Value,B x.Not]) ⟨rfl,rfl⟩ fun t h ⟨s0,s1⟩=>?_;simp only [x_situation_asks];apply b0b;intro K hK;simp only [go_sem,s0,s1];apply hK;refine b0v ?_;apply b0b;intro K hK;simp only [go_sem];apply hK;refine b0i fun K1 hK1=>?_;simp only [b0u];apply b0b;intro K hK;simp only [go_sem];apply hK;simp only [go_sem];refine b0k (fun hc2=>?_) (fun hc2=>?_)
 ·rw [b0r hc2] at hm0;refine b2p (fun t h=>t 4=B ((b2q x.Number 0 (wr ((List.length m.Inputs:Int) - 1))) && (decide (x.Value=0)))) (fun K hK=>?_) ?_
  ·simp only [go_sem];refine b01 (b4q x.Number 0 (wr ((List.length m.Inputs:Int) - 1))) ?_;simp only [go_sem];refine b0k (fun hg3=>?_) (fun hg3=>?_)
   ·simp only [go_sem,hg3];exact hK _ _ (by first|(simp only [go_sem,hg3,lA9,mA9]; done)|rfl)
   ·simp only [go_sem,hg3];exact hK _ _ (by first|(simp only [go_sem,hg3,lA9,mA9]; done)|rfl)
  ·rintro t h s4;simp only [b0x,b1p,b2e,b0y];obtain rfl:=sI9 hm0;exact b04 (by simp only [go_sem,s4,lA9,mA9]) (b0e _)
 ·rw [b0q hc2] at hm0;apply b0b;intro K hK;simp only [go_sem];apply hK;simp only [go_sem];refine b0k (fun hc4=>?_) (fun hc4=>?_)
  ·rw [b0r hc4] at hm0;obtain ⟨c8,h_c8,hm0⟩:=b0g hm0;refine b2p (fun t h=>t 4=B c8) (fun K hK=>?_) ?_
   ·simp only [go_sem];refine b01 (b4q x.Number 0 (wr ((List.length m.Counters:Int) - 1))) ?_;simp only [go_sem];refine b0k (fun hg9=>?_) (fun hg9=>?_)
    ·simp only [hg9,Bool.not_true,Bool.not_false,eq_self,if_true,if_false,Bool.true_or,Bool.or_true,Bool.false_or,Bool.or_false,Bool.true_and,Bool.and_true,Bool.false_and,Bool.and_false,fT9] at h_c8;obtain ⟨x7,h_x7,h_c8⟩:=b0g h_c8;have h_x70:=b05 h_x7;have h_x71:=b06 h_x7;obtain rfl:=sI9 h_c8;simp only [go_sem,b08 h_x7,b3n h_x7,h_x70,h_x71,hg9];refine b01 (b4q x.Value 0 x7.Max) ?_;simp only [go_sem,b08 h_x7,b3n h_x7,h_x70,h_x71,hg9];exact hK _ _ (by first|(simp only [go_sem,hg9,lA9,mA9]; done)|rfl)
    ·simp only [hg9,Bool.not_true,Bool.not_false,eq_self,if_true,if_false,Bool.true_or,Bool.or_true,Bool.false_or,Bool.or_false,Bool.true_and,Bool.and_true,Bool.false_and,Bool.and_false,fT9] at h_c8;obtain rfl:=sI9 h_c8;simp only [go_sem,hg9];exact hK _ _ (by first|(simp only [go_sem,hg9,lA9,mA9]; done)|rfl)
   ·rintro t h s4;simp only [b0x,b1p,b2e,b0y];obtain rfl:=sI9 hm0;exact b04 (by simp only [go_sem,s4,lA9,mA9]) (b0e _)
  ·rw [b0q hc4] at hm0;apply b0b;intro K hK;simp only [go_sem];apply hK;simp only [go_sem];refine b0k (fun hc10=>?_) (fun hc10=>?_)
   ·rw [b0r hc10] at hm0;refine b2p (fun t h=>t 4=B ((b2q x.Number 0 (wr ((List.length m.States:Int) - 1))) && (decide (x.Value=0)))) (fun K hK=>?_) ?_
    ·simp only [go_sem];refine b01 (b4q x.Number 0 (wr ((List.length m.States:Int) - 1))) ?_;simp only [go_sem];refine b0k (fun hg11=>?_) (fun hg11=>?_)
     ·simp only [go_sem,hg11];exact hK _ _ (by first|(simp only [go_sem,hg11,lA9,mA9]; done)|rfl)
     ·simp only [go_sem,hg11];exact hK _ _ (by first|(simp only [go_sem,hg11,lA9,mA9]; done)|rfl)
    ·rintro t h s4;simp only [b0x,b1p,b2e,b0y];obtain rfl:=sI9 hm0;exact b04 (by simp only [go_sem,s4,lA9,mA9]) (b0e _)
   ·rw [b0q hc10] at hm0;apply b0b;intro K hK;simp only [go_sem];apply hK;simp only [go_sem];refine b0k (fun hc12=>?_) (fun hc12=>?_)
    ·rw [b0r hc12] at hm0;refine b2p (fun t h=>t 4=B ((b2q x.Number 0 (wr ((List.length m.Outputs:Int) - 1))) && (decide (x.Value=0)))) (fun K hK=>?_) ?_
     ·simp only [go_sem];refine b01 (b4q x.Number 0 (wr ((List.length m.Outputs:Int) - 1))) ?_;simp only [go_sem];refine b0k (fun hg13=>?_) (fun hg13=>?_)
      ·simp only [go_sem,hg13];exact hK _ _ (by first|(simp only [go_sem,hg13,lA9,mA9]; done)|rfl)
      ·simp only [go_sem,hg13];exact hK _ _ (by first|(simp only [go_sem,hg13,lA9,mA9]; done)|rfl)
     ·rintro t h s4;simp only [b0x,b1p,b2e,b0y];obtain rfl:=sI9 hm0;exact b04 (by simp only [go_sem,s4,lA9,mA9]) (b0e _)
    ·rw [b0q hc12] at hm0;simp only [b0s,b02,b0f];refine hK1 _ _ ?_;apply b0b;intro K hK;simp only [go_sem];apply hK;simp only [b0x,b1p,b2e,b0y];obtain rfl:=sI9 hm0;exact b04 vb9 (b0e _)
theorem d3m (hf:Has O "newel/situation.named" x_situation_named) (d3n:d0q O) (d3j:d0m O) (d3k:d0n O):d0p O:=by
 intro m r hm0;unfold c44 at hm0;refine b1i hf rfl (b0a (fM _) b0j) (b0e _) ?_;refine b1c (fun t h=>t 0 = .agg (vM m)) rfl fun t h s0=>?_;simp only [x_situation_named];apply b0b;intro K hK;simp only [go_sem,s0];apply hK;apply b0b;intro K hK;simp only [go_sem];refine g0d (O:=O) (e:=List.map (eM vS vI) ([]:List (ByteArray × Int))) rfl ?_;simp only [go_sem];apply hK;refine b0v ?_;obtain ⟨y2,h_y2,hm0⟩:=b0g hm0;apply b0b;intro K hK;simp only [go_sem];refine b01 (d3n m _ h_y2) ?_;simp only [go_sem];apply hK;refine b0i fun K3 hK3=>?_
 have J4:∀ (t:Slots) (h:Heap),d49=some r->K3 t h:=by
  intro t h hm0;refine hK3 _ _ ?_;unfold d49 at hm0;apply b0b;intro K hK;simp only [go_sem];apply hK;simp only [b0x,b1p,b2e,b0y];obtain rfl:=sI9 hm0;exact b04 vb9 (b0e _)
 simp only [b0u];obtain ⟨b5,hl5,hm0⟩:=b0g hm0;refine b1j hl5 (fun|(seen_3,x_10),t,h=>∃ i3:Nat,t 3 = .mp i3/\t 8 = .fs 1 (List.map eS y2)/\t 9=I (List.length y2:Int)/\t 10=I x_10/\h.ob i3=some (0,List.map (eM vS vI) seen_3)/\i3<h.nx) ?_ ?_
 ·exact ⟨h.nx,va9,va9,va9,va9,vb9,vh9⟩
 ·rintro ⟨seen_3,x_10⟩ o t h ⟨i3,s3,s8,s9,s10,Q1,Q0⟩ hm1 hb5;simp only [c1i] at hm1;rw [g5c];apply b0b;intro K hK;simp only [go_sem,s9,s10,Q0];apply hK;refine b0i fun K6 hK6=>?_;simp only [go_sem];refine b0k (fun hc7=>?_) (fun hc7=>?_)
  ·rw [b0r hc7] at hm1;simp only [b0s,b02,b0f];refine hK6 _ _ ?_;refine b0i fun K8 hK8=>?_;simp only [b0u];obtain ⟨x10,h_x10,hm1⟩:=b0g hm1;have h_x100:=b05 h_x10;have h_x101:=b06 h_x10;apply b0b;intro K hK;simp only [go_sem,s8,s10,Q0,b08 h_x10,b3n h_x10,h_x100,h_x101];apply hK;apply b0b;intro K hK;simp only [go_sem,s3,Q1,Q0];refine g0c (O:=O) (fk:=vS) (fv:=vI) (l:=seen_3) (x:=x10) (z:=0) g1s d3z ?_ ?_ ?_
   ·rfl
   ·simp only [go_sem,Q1,Q0,lA9,mA9]
   simp only [go_sem,s3,Q1,Q0];refine d2i (O:=O) (fk:=vS) (fv:=vI) (l:=seen_3) (x:=x10) (v:=(wr ((b2w seen_3 x10 0)+1))) j8d d3z ?_ ?_ ?_
   ·rfl
   ·simp only [go_sem,Q1,Q0,lA9,mA9]
   simp only [go_sem,s3,Q1,Q0];apply hK;obtain ⟨y12,h_y12,hm1⟩:=b0g hm1;refine b2p (fun t h=>t 3 = .mp i3/\t 8 = .fs 1 (List.map eS y2)/\t 9=I (List.length y2:Int)/\t 10=I x_10/\t 35=B ((((!y12) || (decide (8<(ByteArray.size x10:Int)))) || (b84 x10)) || (decide (1<(b2w (b3w seen_3 x10 (wr ((b2w seen_3 x10 0)+1))) x10 0))))/\h.ob i3=some (0,List.map (eM vS vI) (b3w seen_3 x10 (wr ((b2w seen_3 x10 0)+1))))/\i3<h.nx) (fun K hK=>?_) ?_
   ·simp only [go_sem,s3,Q1,Q0];refine b01 (d3j x10 _ h_y12) ?_;simp only [go_sem,s3,Q1,Q0];refine b0k (fun hg13=>?_) (fun hg13=>?_)
    ·simp only [go_sem,s3,Q1,Q0,hg13];exact hK _ _ ⟨s3,s8,s9,s10,(by first|(simp only [go_sem,hg13,lA9,mA9]; done)|rfl),(by simp only [go_sem,Q1,Q0,hg13,lA9,mA9]),(by simp only [go_sem,Q0])⟩
    ·simp only [go_sem,s3,Q1,Q0,hg13];refine b0k (fun hg14=>?_) (fun hg14=>?_)
     ·simp only [go_sem,s3,Q1,Q0,hg13,hg14];exact hK _ _ ⟨s3,s8,s9,s10,(by first|(simp only [go_sem,hg13,hg14,lA9,mA9]; done)|rfl),(by simp only [go_sem,Q1,Q0,hg13,hg14,lA9,mA9]),(by simp only [go_sem,Q0])⟩
     ·simp only [go_sem,s3,Q1,Q0,hg13,hg14];refine b01 (d3k x10) ?_;simp only [go_sem,s3,Q1,Q0,hg13,hg14];refine b0k (fun hg15=>?_) (fun hg15=>?_)
      ·simp only [go_sem,s3,Q1,Q0,hg13,hg14,hg15];exact hK _ _ ⟨s3,s8,s9,s10,(by first|(simp only [go_sem,hg13,hg14,hg15,lA9,mA9]; done)|rfl),(by simp only [go_sem,Q1,Q0,hg13,hg14,hg15,lA9,mA9]),(by simp only [go_sem,Q0])⟩
      ·simp only [go_sem,s3,Q1,Q0,hg13,hg14,hg15];refine g0c (O:=O) (fk:=vS) (fv:=vI) (l:=(b3w seen_3 x10 (wr ((b2w seen_3 x10 0)+1)))) (x:=x10) (z:=0) g1s d3z ?_ ?_ ?_
       ·rfl
       ·simp only [go_sem,hg13,hg14,hg15,Q1,Q0,lA9,mA9]
       simp only [go_sem,s3,Q1,Q0,hg13,hg14,hg15];exact hK _ _ ⟨s3,s8,s9,s10,(by first|(simp only [go_sem,hg13,hg14,hg15,lA9,mA9]; done)|rfl),(by simp only [go_sem,Q1,Q0,hg13,hg14,hg15,lA9,mA9]),(by simp only [go_sem,Q0])⟩
   ·rintro t h ⟨s3,s8,s9,s10,s35,Q1,Q0⟩;simp only [go_sem,s35];refine b0k (fun hc16=>?_) (fun hc16=>?_)
    ·rw [b0r hc16] at hm1;apply b0b;intro K hK;simp only [go_sem,Q0];apply hK;simp only [b0x,b1p,b2e,b0y];obtain rfl:=sI9 hm1;obtain rfl:=hb5 _ rfl
     try dsimp only at hm0
     obtain rfl:=sI9 hm0;exact b04 (by simp only [go_sem,Q1,Q0,lA9,mA9]) (b0e _)
    ·rw [b0q hc16] at hm1;simp only [b0s,b02,b0f];refine hK8 _ _ ?_;apply b03;intro K hK;simp only [go_sem,s10,Q0];apply hK;simp only [b02,b0f];obtain rfl:=sI9 hm1;refine ⟨_,rfl,?_⟩;exact ⟨i3,s3,s8,s9,(by first|(simp only [go_sem,s10,lA9,mA9]; done)|rfl),Q1,Q0⟩
  ·rw [b0q hc7] at hm1;simp only [b09,b1b,b1a,c0s,b02,b0f,Nat.reduceEqDiff,nF9];obtain rfl:=sI9 hm1;obtain rfl:=hb5 _ rfl
   try dsimp only at hm0
   exact J4  _ _  hm0
theorem d3n (d3o:d0r O) (d3p:d0s O):d0q O:=by
 intro m r hm0;unfold c45 at hm0;split at hm0
 ·exact d3o m r hm0
 ·exact d3p m r hm0
theorem d3o (hf:Has O "newel/situation.names" x_situation_names) (d3q:d0t O):d0r O:=by
 intro m r hm0;unfold c88 at hm0;refine b1i hf rfl (b0a (fM _) b0j) (b0c fun a _=>b0z a) ?_;refine b1c (fun t h=>t 0 = .agg (vM m)) rfl fun t h s0=>?_;simp only [x_situation_names];apply b0b;intro K hK;simp only [go_sem,s0];apply hK;obtain ⟨y2,h_y2,hm0⟩:=b0g hm0;apply b0b;intro K hK;simp only [go_sem];refine j4w (e:=eS) (l:=y2) ?_ (d3q ([m.Inputs,m.Outputs]) _ h_y2) ?_
 ·exact .cons (b29 (f:=b4f) (l:=([m.Inputs,m.Outputs])) (id:=h.nx) vb9 vf9 c65 g1e) (.nil)
 simp only [go_sem];apply hK;refine b0v ?_;apply b0b;intro K hK;simp only [go_sem];apply hK;refine b0i fun K3 hK3=>?_
 have J4:∀ (l_3:List ByteArray) (i3:Nat) (t:Slots) (h:Heap),t 1 = .fp (vM m) 0->t 3 = .rs i3 0 (List.length l_3)->h.ob i3=some (1,List.map eS l_3)->i3<h.nx->c9b m l_3=some r->K3 t h:=by
  intro l_3 i3 t h s1 s3 Q1 Q0 hm0;refine hK3 _ _ ?_;unfold c9b at hm0;refine b0v ?_;apply b0b;intro K hK;simp only [go_sem,s1,Q0];apply hK;refine b0i fun K5 hK5=>?_
  have J6:∀ (l_3_1:List ByteArray) (i3_1:Nat) (t:Slots) (h:Heap),t 3 = .rs i3_1 0 (List.length l_3_1)->h.ob i3_1=some (1,List.map eS l_3_1)->i3_1<h.nx->c9c l_3_1=some r->K5 t h:=by
   intro l_3_1 i3_1 t h s3 Q1 Q0 hm0;refine hK5 _ _ ?_;unfold c9c at hm0;apply b0b;intro K hK;simp only [go_sem,s3,Q1,Q0];apply hK;simp only [b0x,b1p,b2e,b0y];obtain rfl:=sI9 hm0;exact b8e (v:=.rs i3_1 0 (List.length l_3_1)) (by simp only [go_sem,Q1,Q0,lA9,mA9]) (b29 (f:=eS) (l:=l_3_1) (id:=i3_1) (by simp only [go_sem,Q1,Q0,lA9,mA9]) vf9 b0z c3u)
  simp only [b0u];obtain ⟨b7,hl7,hm0⟩:=b0g hm0;refine b1j hl7 (fun|(l_3_1,x_30),t,h=>∃ i3_1:Nat,t 3 = .rs i3_1 0 (List.length l_3_1)/\t 28 = .fs 2 (List.map b0p m.States)/\t 29=I (List.length m.States:Int)/\t 30=I x_30/\h.ob i3_1=some (1,List.map eS l_3_1)/\i3_1<h.nx) ?_ ?_
  ·exact ⟨i3,(by first|exact s3|simp only [go_sem,s3,lA9,mA9]),va9,va9,va9,Q1,Q0⟩
  ·rintro ⟨l_3_1,x_30⟩ o t h ⟨i3_1,s3,s28,s29,s30,Q1,Q0⟩ hm1 hb7;simp only [c89] at hm1;rw [d5k];apply b0b;intro K hK;simp only [go_sem,s29,s30,Q0];apply hK;refine b0i fun K8 hK8=>?_;simp only [go_sem];refine b0k (fun hc9=>?_) (fun hc9=>?_)
   ·rw [b0r hc9] at hm1;simp only [b0s,b02,b0f];refine hK8 _ _ ?_;refine b0i fun K10 hK10=>?_;simp only [b0u];obtain ⟨x12,h_x12,hm1⟩:=b0g hm1;have h_x120:=b05 h_x12;have h_x121:=b06 h_x12;apply b0b;intro K hK;simp only [go_sem,s28,s30,Q0,b08 h_x12,b3n h_x12,h_x120,h_x121];apply hK;obtain ⟨l14,h_l14,hm1⟩:=b0g hm1;apply b03;intro K hK;simp only [go_sem,s3,Q1,Q0];refine b3a (f:=eS) (l:=l_3_1) (m:=([x12.Name])) ?_ ?_ ?_ ?_ h_l14 ?_
    ·exact (b2v (by simp only [go_sem,Q1,Q0,lA9,mA9]) (by simp only [go_sem,Q1,Q0,lA9,mA9]) (by simp only [go_sem,Q0]))
    ·exact (b4t (by simp only [go_sem,Q1,Q0,lA9,mA9]) (by simp only [go_sem,Q1,Q0,lA9,mA9]))
    ·exact (b4r ve9)
    ·exact (fun _=>by simp)
    simp only [go_sem,s3,Q1,Q0];apply hK;simp only [b02,b0f];refine hK10 _ _ ?_;apply b03;intro K hK;simp only [go_sem,s30,Q0];apply hK;simp only [b02,b0f];obtain rfl:=sI9 hm1;refine ⟨_,rfl,?_⟩;exact ⟨(nxs (nxs h.nx)),(by first|(simp only [go_sem,s3,lA9,mA9]; done)|rfl),s28,s29,(by first|(simp only [go_sem,s30,lA9,mA9]; done)|rfl),(by simp only [go_sem,Q0,lA9,mA9]),vh9⟩
   ·rw [b0q hc9] at hm1;simp only [b09,b1b,b1a,c0s,b02,b0f,Nat.reduceEqDiff,nF9];obtain rfl:=sI9 hm1;obtain rfl:=hb7 _ rfl
    try dsimp only at hm0
    exact J6 l_3_1 i3_1 _ _ (by first|exact s3|simp only [go_sem,s3,lA9,mA9]) Q1 Q0 hm0
 simp only [b0u];obtain ⟨b16,hl16,hm0⟩:=b0g hm0;refine b1j hl16 (fun|(l_3,x_17),t,h=>∃ i3:Nat,t 1 = .fp (vM m) 0/\t 3 = .rs i3 0 (List.length l_3)/\t 15 = .fs 2 (List.map b0o m.Counters)/\t 16=I (List.length m.Counters:Int)/\t 17=I x_17/\h.ob i3=some (1,List.map eS l_3)/\i3<h.nx) ?_ ?_
 ·exact ⟨(nxs h.nx),va9,va9,va9,va9,va9,vb9,vh9⟩
 ·rintro ⟨l_3,x_17⟩ o t h ⟨i3,s1,s3,s15,s16,s17,Q1,Q0⟩ hm1 hb16;simp only [c9a] at hm1;rw [d5l];apply b0b;intro K hK;simp only [go_sem,s16,s17,Q0];apply hK;refine b0i fun K17 hK17=>?_;simp only [go_sem];refine b0k (fun hc18=>?_) (fun hc18=>?_)
  ·rw [b0r hc18] at hm1;simp only [b0s,b02,b0f];refine hK17 _ _ ?_;refine b0i fun K19 hK19=>?_;simp only [b0u];obtain ⟨x21,h_x21,hm1⟩:=b0g hm1;have h_x210:=b05 h_x21;have h_x211:=b06 h_x21;apply b0b;intro K hK;simp only [go_sem,s15,s17,Q0,b08 h_x21,b3n h_x21,h_x210,h_x211];apply hK;obtain ⟨l23,h_l23,hm1⟩:=b0g hm1;apply b03;intro K hK;simp only [go_sem,s3,Q1,Q0];refine b3a (f:=eS) (l:=l_3) (m:=([x21.Name])) ?_ ?_ ?_ ?_ h_l23 ?_
   ·exact (b2v (by simp only [go_sem,Q1,Q0,lA9,mA9]) (by simp only [go_sem,Q1,Q0,lA9,mA9]) (by simp only [go_sem,Q0]))
   ·exact (b4t (by simp only [go_sem,Q1,Q0,lA9,mA9]) (by simp only [go_sem,Q1,Q0,lA9,mA9]))
   ·exact (b4r ve9)
   ·exact (fun _=>by simp)
   simp only [go_sem,s3,Q1,Q0];apply hK;simp only [b02,b0f];refine hK19 _ _ ?_;apply b03;intro K hK;simp only [go_sem,s17,Q0];apply hK;simp only [b02,b0f];obtain rfl:=sI9 hm1;refine ⟨_,rfl,?_⟩;exact ⟨(nxs (nxs h.nx)),s1,(by first|(simp only [go_sem,s3,lA9,mA9]; done)|rfl),s15,s16,(by first|(simp only [go_sem,s17,lA9,mA9]; done)|rfl),(by simp only [go_sem,Q0,lA9,mA9]),vh9⟩
  ·rw [b0q hc18] at hm1;simp only [b09,b1b,b1a,c0s,b02,b0f,Nat.reduceEqDiff,nF9];obtain rfl:=sI9 hm1;obtain rfl:=hb16 _ rfl
   try dsimp only at hm0
   exact J4 l_3 i3 _ _ s1 (by first|exact s3|simp only [go_sem,s3,lA9,mA9]) Q1 Q0 hm0
theorem d3p (hf:Has O "newel/situation.names" x_situation_names) (d3r:d0u O):d0s O:=by
 intro m r hm0;unfold c9d at hm0;refine b1i hf rfl (b0a (fM _) b0j) (b0c fun a _=>b0z a) ?_;refine b1c (fun t h=>t 0 = .agg (vM m)) rfl fun t h s0=>?_;simp only [x_situation_names];apply b0b;intro K hK;simp only [go_sem,s0];apply hK;obtain ⟨y2,h_y2,hm0⟩:=b0g hm0;apply b0b;intro K hK;simp only [go_sem];refine b8l ?_ (d3r ([m.Inputs,m.Outputs]) _ h_y2) (.v _) ?_
 ·exact .cons (b29 (f:=b4f) (l:=([m.Inputs,m.Outputs])) (id:=h.nx) vb9 vf9 c65 g1e) (.nil)
 simp only [go_sem];apply hK;refine b0v ?_;apply b0b;intro K hK;simp only [go_sem];apply hK;refine b0i fun K3 hK3=>?_
 have J4:∀ (l_3:List ByteArray) (v3:AV) (t:Slots) (h:Heap),t 1 = .fp (vM m) 0->t 3=v3->b2a h v3 1 (List.map eS l_3)->c9g m l_3=some r->K3 t h:=by
  intro l_3 v3 t h s1 s3 Q2 hm0;refine hK3 _ _ ?_;unfold c9g at hm0;refine b0v ?_;apply b0b;intro K hK;simp only [go_sem,s1,b5r v3];apply hK;refine b0i fun K5 hK5=>?_
  have J6:∀ (l_3_1:List ByteArray) (v3_1:AV) (t:Slots) (h:Heap),t 3=v3_1->b2a h v3_1 1 (List.map eS l_3_1)->c9h l_3_1=some r->K5 t h:=by
   intro l_3_1 v3_1 t h s3 Q2 hm0;refine hK5 _ _ ?_;unfold c9h at hm0;apply b0b;intro K hK;simp only [go_sem,s3,l3r Q2,b5r v3,b5r v3_1];apply hK;simp only [b0x,b1p,b2e,b0y];obtain rfl:=sI9 hm0;exact b8e (v:=v3_1) (by simp only [go_sem,b8s Q2,lA9,mA9]) (r8x (f:=eS) (l:=l_3_1) (b3x Q2 (by intro j hj hl; first|rfl|simp only [go_sem,hl]) (by first|omega|exact Nat.le_refl _|(simp only [go_sem,nxs] <;> omega))) b0z c3u)
  simp only [b0u];obtain ⟨b7,hl7,hm0⟩:=b0g hm0;refine b1j hl7 (fun|(l_3_1,x_30),t,h=>∃ v3_1:AV,t 3=v3_1/\t 28 = .fs 2 (List.map b0p m.States)/\t 29=I (List.length m.States:Int)/\t 30=I x_30/\b2a h v3_1 1 (List.map eS l_3_1)) ?_ ?_
  ·exact ⟨v3,s3,va9,va9,va9,Q2⟩
  ·rintro ⟨l_3_1,x_30⟩ o t h ⟨v3_1,s3,s28,s29,s30,Q2⟩ hm1 hb7;simp only [c9e] at hm1;rw [d5k];apply b0b;intro K hK;simp only [go_sem,s29,s30,b5r v3,b5r v3_1];apply hK;refine b0i fun K8 hK8=>?_;simp only [go_sem];refine b0k (fun hc9=>?_) (fun hc9=>?_)
   ·rw [b0r hc9] at hm1;simp only [b0s,b02,b0f];refine hK8 _ _ ?_;refine b0i fun K10 hK10=>?_;simp only [b0u];obtain ⟨x12,h_x12,hm1⟩:=b0g hm1;have h_x120:=b05 h_x12;have h_x121:=b06 h_x12;apply b0b;intro K hK;simp only [go_sem,s28,s30,b08 h_x12,b3n h_x12,h_x120,h_x121,b5r v3,b5r v3_1];apply hK;obtain ⟨l14,h_l14,hm1⟩:=b0g hm1;apply b03;intro K hK;simp only [go_sem,s3,l3r Q2,b5r v3,b5r v3_1];refine b3a (f:=eS) (l:=l_3_1) (m:=([x12.Name])) ?_ ?_ ?_ ?_ h_l14 ?_
    ·exact (b3x Q2 (by intro j hj hl; first|rfl|simp only [go_sem,hl]) (by first|omega|exact Nat.le_refl _|(simp only [go_sem,nxs] <;> omega)))
    ·exact (b4t (by simp only [go_sem,b8s Q2,lA9,mA9]) (by simp only [go_sem,b8s Q2,lA9,mA9]))
    ·exact (b4r ve9)
    ·exact (fun _=>by simp)
    simp only [go_sem,s3,l3r Q2,b5r v3,b5r v3_1];apply hK;simp only [b02,b0f];refine hK10 _ _ ?_;apply b03;intro K hK;simp only [go_sem,s30,b5r v3,b5r v3_1];apply hK;simp only [b02,b0f];obtain rfl:=sI9 hm1;refine ⟨_,rfl,?_⟩;exact ⟨(.rs (nxs (nxs h.nx)) 0 (List.length l14)),(by first|(simp only [go_sem,s3,lA9,mA9]; done)|rfl),s28,s29,(by first|(simp only [go_sem,s30,lA9,mA9]; done)|rfl),(b2v (by simp only [go_sem,b8s Q2,lA9,mA9]) vf9 vh9)⟩
   ·rw [b0q hc9] at hm1;simp only [b09,b1b,b1a,c0s,b02,b0f,Nat.reduceEqDiff,nF9];obtain rfl:=sI9 hm1;obtain rfl:=hb7 _ rfl
    try dsimp only at hm0
    exact J6 l_3_1 v3_1 _ _ s3 Q2 hm0
 simp only [b0u];obtain ⟨b16,hl16,hm0⟩:=b0g hm0;refine b1j hl16 (fun|(l_3,x_17),t,h=>∃ v3:AV,t 1 = .fp (vM m) 0/\t 3=v3/\t 15 = .fs 2 (List.map b0o m.Counters)/\t 16=I (List.length m.Counters:Int)/\t 17=I x_17/\b2a h v3 1 (List.map eS l_3)) ?_ ?_
 ·exact ⟨(.v (.slice none 0 0)),va9,va9,va9,va9,va9,c0o⟩
 ·rintro ⟨l_3,x_17⟩ o t h ⟨v3,s1,s3,s15,s16,s17,Q2⟩ hm1 hb16;simp only [c9f] at hm1;rw [d5l];apply b0b;intro K hK;simp only [go_sem,s16,s17,b5r v3];apply hK;refine b0i fun K17 hK17=>?_;simp only [go_sem];refine b0k (fun hc18=>?_) (fun hc18=>?_)
  ·rw [b0r hc18] at hm1;simp only [b0s,b02,b0f];refine hK17 _ _ ?_;refine b0i fun K19 hK19=>?_;simp only [b0u];obtain ⟨x21,h_x21,hm1⟩:=b0g hm1;have h_x210:=b05 h_x21;have h_x211:=b06 h_x21;apply b0b;intro K hK;simp only [go_sem,s15,s17,b08 h_x21,b3n h_x21,h_x210,h_x211,b5r v3];apply hK;obtain ⟨l23,h_l23,hm1⟩:=b0g hm1;apply b03;intro K hK;simp only [go_sem,s3,l3r Q2,b5r v3];refine b3a (f:=eS) (l:=l_3) (m:=([x21.Name])) ?_ ?_ ?_ ?_ h_l23 ?_
   ·exact (b3x Q2 (by intro j hj hl; first|rfl|simp only [go_sem,hl]) (by first|omega|exact Nat.le_refl _|(simp only [go_sem,nxs] <;> omega)))
   ·exact (b4t (by simp only [go_sem,b8s Q2,lA9,mA9]) (by simp only [go_sem,b8s Q2,lA9,mA9]))
   ·exact (b4r ve9)
   ·exact (fun _=>by simp)
   simp only [go_sem,s3,l3r Q2,b5r v3];apply hK;simp only [b02,b0f];refine hK19 _ _ ?_;apply b03;intro K hK;simp only [go_sem,s17,b5r v3];apply hK;simp only [b02,b0f];obtain rfl:=sI9 hm1;refine ⟨_,rfl,?_⟩;exact ⟨(.rs (nxs (nxs h.nx)) 0 (List.length l23)),s1,(by first|(simp only [go_sem,s3,lA9,mA9]; done)|rfl),s15,s16,(by first|(simp only [go_sem,s17,lA9,mA9]; done)|rfl),(b2v (by simp only [go_sem,b8s Q2,lA9,mA9]) vf9 vh9)⟩
  ·rw [b0q hc18] at hm1;simp only [b09,b1b,b1a,c0s,b02,b0f,Nat.reduceEqDiff,nF9];obtain rfl:=sI9 hm1;obtain rfl:=hb16 _ rfl
   try dsimp only at hm0
   exact J4 l_3 v3 _ _ s1 s3 Q2 hm0
theorem b4q (hf:Has O "newel/situation.within" x_situation_within):c5u O:=by
 intro n low high;generalize hm0:b2q n low high=r;unfold b2q at hm0;refine b1i hf rfl (b0a (b0e _) (b0a (b0e _) (b0a (b0e _) b0j))) (b0e _) ?_;refine b1c (fun t h=>t 0=I n/\t 1=I low/\t 2=I high) ⟨rfl,rfl,rfl⟩ fun t h ⟨s0,s1,s2⟩=>?_;simp only [x_situation_within];apply b0b;intro K hK;simp only [go_sem];apply hK;refine b2p (fun t h=>t 6=B ((decide (low<=n)) && (decide (n<=high)))) (fun K hK=>?_) ?_
 ·simp only [go_sem,s0,s1,s2];refine b0k (fun hg1=>?_) (fun hg1=>?_)
  ·simp only [go_sem,s0,s1,s2,hg1];exact hK _ _ (by first|(simp only [go_sem,hg1,lA9,mA9]; done)|rfl)
  ·simp only [go_sem,s0,s1,s2,hg1];exact hK _ _ (by first|(simp only [go_sem,hg1,lA9,mA9]; done)|rfl)
 ·rintro t h s6;simp only [b0x,b1p,b2e,b0y];obtain rfl:=hm0;exact b04 (by simp only [go_sem,s6,lA9,mA9]) (b0e _)
theorem d3t (hf:Has O "slices.ContainsFunc[newel/api.Cond,newel/api.Term]" x_slices_ContainsFunc_api_Cond_api_Term_) (d3v:d0y O):d0w O:=by
 intro s f_n f_a f_b f f_z f_h r hm0;unfold c9k at hm0;refine b1i hf rfl (b0a (b0c fun a _=>b2j a) (b0a f_z b0j)) (b0e _) ?_;refine b1c (fun t h=>t 0 = .fs 1 (List.map b0t s)/\t 1 = .fn f_n f_a f_b) ⟨rfl,rfl⟩ fun t h ⟨s0,s1⟩=>?_;simp only [x_slices_ContainsFunc_api_Cond_api_Term_];apply b0b;intro K hK;simp only [go_sem];apply hK;obtain ⟨y2,h_y2,hm0⟩:=b0g hm0;apply b0b;intro K hK;simp only [go_sem,s0,s1];refine b01 (d3v s f_n f_a f_b f f_z f_h _ h_y2) ?_;simp only [go_sem,s0,s1];apply hK;simp only [b0x,b1p,b2e,b0y];obtain rfl:=sI9 hm0;exact b04 vb9 (b0e _)
theorem b8n (hf:Has O "slices.ContainsFunc[newel/api.Term,newel/api.Literal]" x_slices_ContainsFunc_api_Term_api_Literal_) (d3w:d0z O):c1o O:=by
 intro s f_n f_a f_b f f_z f_h r hm0;unfold b7t at hm0;refine b1i hf rfl (b0a (b0c fun a _=>c2w a) (b0a f_z b0j)) (b0e _) ?_;refine b1c (fun t h=>t 0 = .fs 4 (List.map b3k s)/\t 1 = .fn f_n f_a f_b) ⟨rfl,rfl⟩ fun t h ⟨s0,s1⟩=>?_;simp only [x_slices_ContainsFunc_api_Term_api_Literal_];apply b0b;intro K hK;simp only [go_sem];apply hK;obtain ⟨y2,h_y2,hm0⟩:=b0g hm0;apply b0b;intro K hK;simp only [go_sem,s0,s1];refine b01 (d3w s f_n f_a f_b f f_z f_h _ h_y2) ?_;simp only [go_sem,s0,s1];apply hK;simp only [b0x,b1p,b2e,b0y];obtain rfl:=sI9 hm0;exact b04 vb9 (b0e _)
theorem d3v (hf:Has O "slices.IndexFunc[newel/api.Cond,newel/api.Term]" x_slices_IndexFunc_api_Cond_api_Term_):d0y O:=by
 intro s f_n f_a f_b f f_z f_h r hm0;unfold d5c at hm0;refine b1i hf rfl (b0a (b0c fun a _=>b2j a) (b0a f_z b0j)) (b0e _) ?_;refine b1c (fun t h=>t 0 = .fs 1 (List.map b0t s)/\t 1 = .fn f_n f_a f_b) ⟨rfl,rfl⟩ fun t h ⟨s0,s1⟩=>?_;simp only [x_slices_IndexFunc_api_Cond_api_Term_];apply b0b;intro K hK;simp only [go_sem];apply hK;refine b0v ?_;apply b0b;intro K hK;simp only [go_sem,s0];apply hK;refine b0i fun K1 hK1=>?_
 have J2:∀ (t:Slots) (h:Heap),d5d=some r->K1 t h:=by
  intro t h hm0;refine hK1 _ _ ?_;unfold d5d at hm0;apply b0b;intro K hK;simp only [go_sem];apply hK;simp only [b0x,b1p,b2e,b0y];obtain rfl:=sI9 hm0;exact b04 vb9 (b0e _)
 simp only [b0u];obtain ⟨b3,hl3,hm0⟩:=b0g hm0;refine b1j hl3 (fun|x_8,t,h=>t 0 = .fs 1 (List.map b0t s)/\t 1 = .fn f_n f_a f_b/\t 7=I (List.length s:Int)/\t 8=I x_8) ?_ ?_
 ·exact ⟨s0,s1,va9,va9⟩
 ·rintro x_8 o t h ⟨s0,s1,s7,s8⟩ hm1 hb3;simp only [g3d] at hm1;rw [g5e];apply b0b;intro K hK;simp only [go_sem,s7,s8];apply hK;refine b0i fun K4 hK4=>?_;simp only [go_sem];refine b0k (fun hc5=>?_) (fun hc5=>?_)
  ·rw [b0r hc5] at hm1;simp only [b0s,b02,b0f];refine hK4 _ _ ?_;refine b0i fun K6 hK6=>?_;simp only [b0u];apply b0b;intro K hK;simp only [go_sem,s8];apply hK;obtain ⟨x9,h_x9,hm1⟩:=b0g hm1;have h_x90:=b05 h_x9;have h_x91:=b06 h_x9;obtain ⟨y10,h_y10,hm1⟩:=b0g hm1;apply b0b;intro K hK;simp only [go_sem,s0,s1,b08 h_x9,b3n h_x9,h_x90,h_x91];refine o5t (f_h x9 _ h_y10) ?_;simp only [go_sem,s0,s1,b08 h_x9,b3n h_x9,h_x90,h_x91];apply hK;simp only [go_sem];refine b0k (fun hc11=>?_) (fun hc11=>?_)
   ·rw [b0r hc11] at hm1;apply b0b;intro K hK;simp only [go_sem];apply hK;simp only [b0x,b1p,b2e,b0y];obtain rfl:=sI9 hm1;obtain rfl:=hb3 _ rfl
    try dsimp only at hm0
    obtain rfl:=sI9 hm0;exact b04 vb9 (b0e _)
   ·rw [b0q hc11] at hm1;simp only [b0s,b02,b0f];refine hK6 _ _ ?_;apply b03;intro K hK;simp only [go_sem,s8];apply hK;simp only [b02,b0f];obtain rfl:=sI9 hm1;refine ⟨_,rfl,?_⟩;exact ⟨s0,s1,s7,(by first|(simp only [go_sem,s8,lA9,mA9]; done)|rfl)⟩
  ·rw [b0q hc5] at hm1;simp only [b09,b1b,b1a,c0s,b02,b0f,Nat.reduceEqDiff,nF9];obtain rfl:=sI9 hm1;obtain rfl:=hb3 _ rfl
   try dsimp only at hm0
   exact J2  _ _  hm0
theorem d3w (hf:Has O "slices.IndexFunc[newel/api.Term,newel/api.Literal]" x_slices_IndexFunc_api_Term_api_Literal_):d0z O:=by
 intro s f_n f_a f_b f f_z f_h r hm0;unfold d5e at hm0;refine b1i hf rfl (b0a (b0c fun a _=>c2w a) (b0a f_z b0j)) (b0e _) ?_;refine b1c (fun t h=>t 0 = .fs 4 (List.map b3k s)/\t 1 = .fn f_n f_a f_b) ⟨rfl,rfl⟩ fun t h ⟨s0,s1⟩=>?_;simp only [x_slices_IndexFunc_api_Term_api_Literal_];apply b0b;intro K hK;simp only [go_sem];apply hK;refine b0v ?_;apply b0b;intro K hK;simp only [go_sem,s0];apply hK;refine b0i fun K1 hK1=>?_
 have J2:∀ (t:Slots) (h:Heap),d5f=some r->K1 t h:=by
  intro t h hm0;refine hK1 _ _ ?_;unfold d5f at hm0;apply b0b;intro K hK;simp only [go_sem];apply hK;simp only [b0x,b1p,b2e,b0y];obtain rfl:=sI9 hm0;exact b04 vb9 (b0e _)
 simp only [b0u];obtain ⟨b3,hl3,hm0⟩:=b0g hm0;refine b1j hl3 (fun|x_8,t,h=>t 0 = .fs 4 (List.map b3k s)/\t 1 = .fn f_n f_a f_b/\t 7=I (List.length s:Int)/\t 8=I x_8) ?_ ?_
 ·exact ⟨s0,s1,va9,va9⟩
 ·rintro x_8 o t h ⟨s0,s1,s7,s8⟩ hm1 hb3;simp only [g3e] at hm1;rw [g5f];apply b0b;intro K hK;simp only [go_sem,s7,s8];apply hK;refine b0i fun K4 hK4=>?_;simp only [go_sem];refine b0k (fun hc5=>?_) (fun hc5=>?_)
  ·rw [b0r hc5] at hm1;simp only [b0s,b02,b0f];refine hK4 _ _ ?_;refine b0i fun K6 hK6=>?_;simp only [b0u];apply b0b;intro K hK;simp only [go_sem,s8];apply hK;obtain ⟨x9,h_x9,hm1⟩:=b0g hm1;have h_x90:=b05 h_x9;have h_x91:=b06 h_x9;obtain ⟨y10,h_y10,hm1⟩:=b0g hm1;apply b0b;intro K hK;simp only [go_sem,s0,s1,b08 h_x9,b3n h_x9,h_x90,h_x91];refine o5t (f_h x9 _ h_y10) ?_;simp only [go_sem,s0,s1,b08 h_x9,b3n h_x9,h_x90,h_x91];apply hK;simp only [go_sem];refine b0k (fun hc11=>?_) (fun hc11=>?_)
   ·rw [b0r hc11] at hm1;apply b0b;intro K hK;simp only [go_sem];apply hK;simp only [b0x,b1p,b2e,b0y];obtain rfl:=sI9 hm1;obtain rfl:=hb3 _ rfl
    try dsimp only at hm0
    obtain rfl:=sI9 hm0;exact b04 vb9 (b0e _)
   ·rw [b0q hc11] at hm1;simp only [b0s,b02,b0f];refine hK6 _ _ ?_;apply b03;intro K hK;simp only [go_sem,s8];apply hK;simp only [b02,b0f];obtain rfl:=sI9 hm1;refine ⟨_,rfl,?_⟩;exact ⟨s0,s1,s7,(by first|(simp only [go_sem,s8,lA9,mA9]; done)|rfl)⟩
  ·rw [b0q hc5] at hm1;simp only [b09,b1b,b1a,c0s,b02,b0f,Nat.reduceEqDiff,nF9];obtain rfl:=sI9 hm1;obtain rfl:=hb3 _ rfl
   try dsimp only at hm0
   exact J2  _ _  hm0
theorem L5h (hf:Has O "slices.Index[[][3]int,[3]int]" x_slices_Index____3_int__3_int_):L5d O:=by
 intro s v r hm0;unfold L4d at hm0;refine b1i hf rfl (b0a (b0c fun a _=>K64 a) (b0a (.agg _ (b0a (b0e _) (b0a (b0e _) (b0a (b0e _) b0j)))) b0j)) (b0e _) ?_;refine b1c (fun t h=>t 0 = .fs 3 (List.map b70 s)/\t 1 = .agg [I v.1,I v.2.1,I v.2.2]) ⟨rfl,rfl⟩ fun t h ⟨s0,s1⟩=>?_;simp only [x_slices_Index____3_int__3_int_];apply b0b;intro K hK;simp only [go_sem,s1];apply hK;refine b0v ?_;apply b0b;intro K hK;simp only [go_sem,s0];apply hK;refine b0i fun K1 hK1=>?_
 have J2:∀ (t:Slots) (h:Heap),L70=some r->K1 t h:=by
  intro t h hm0;refine hK1 _ _ ?_;unfold L70 at hm0;apply b0b;intro K hK;simp only [go_sem];apply hK;simp only [b0x,b1p,b2e,b0y];obtain rfl:=sI9 hm0;exact b04 vb9 (b0e _)
 simp only [b0u];obtain ⟨b3,hl3,hm0⟩:=b0g hm0;refine b1j hl3 (fun|x_8,t,h=>t 0 = .fs 3 (List.map b70 s)/\t 3 = .fp [I v.1,I v.2.1,I v.2.2] 0/\t 7=I (List.length s:Int)/\t 8=I x_8) ?_ ?_
 ·exact ⟨s0,va9,va9,va9⟩
 ·rintro x_8 o t h ⟨s0,s3,s7,s8⟩ hm1 hb3;simp only [L89] at hm1;rw [L90];apply b0b;intro K hK;simp only [go_sem,s7,s8];apply hK;refine b0i fun K4 hK4=>?_;simp only [go_sem];refine b0k (fun hc5=>?_) (fun hc5=>?_)
  ·rw [b0r hc5] at hm1;simp only [b0s,b02,b0f];refine hK4 _ _ ?_;refine b0i fun K6 hK6=>?_;simp only [b0u];apply b0b;intro K hK;simp only [go_sem,s8];apply hK;obtain ⟨x8,h_x8,hm1⟩:=b0g hm1;have h_x80:=b05 h_x8;have h_x81:=b06 h_x8;apply b0b;intro K hK;simp only [go_sem,s0,s3,b08 h_x8,b3n h_x8,h_x80,h_x81];apply hK;simp only [go_sem];refine b0k (fun hc9=>?_) (fun hc9=>?_)
   ·rw [b0r hc9] at hm1;apply b0b;intro K hK;simp only [go_sem];apply hK;simp only [b0x,b1p,b2e,b0y];obtain rfl:=sI9 hm1;obtain rfl:=hb3 _ rfl
    try dsimp only at hm0
    obtain rfl:=sI9 hm0;exact b04 vb9 (b0e _)
   ·rw [b0q hc9] at hm1;simp only [b0s,b02,b0f];refine hK6 _ _ ?_;apply b03;intro K hK;simp only [go_sem,s8];apply hK;simp only [b02,b0f];obtain rfl:=sI9 hm1;refine ⟨_,rfl,?_⟩;exact ⟨s0,s3,s7,(by first|(simp only [go_sem,s8,lA9,mA9]; done)|rfl)⟩
  ·rw [b0q hc5] at hm1;simp only [b09,b1b,b1a,c0s,b02,b0f,Nat.reduceEqDiff,nF9];obtain rfl:=sI9 hm1;obtain rfl:=hb3 _ rfl
   try dsimp only at hm0
   exact J2  _ _  hm0
theorem d3x (hf:Has O "slices.Reverse[[]int,int]" x_slices_Reverse___int_int_):d00 O:=by
 intro s v_0 h0 ow_p0 r hm0;unfold H9x at hm0;refine d8g hf rfl ?_;refine b1c (fun t h=>t 0=v_0/\b2a h v_0 1 (List.map eI s)/\(∀ j,j<h0.nx->b07 v_0 j->h.ob j=h0.ob j)/\h0.nx<=h.nx) ⟨rfl,ow_p0,fun _ _ _=>rfl,Nat.le_refl _⟩ fun t h ⟨s0,ow_p0,fr,fx⟩=>?_;simp only [x_slices_Reverse___int_int_];apply b0b;intro K hK;simp only [go_sem,s0,l3r ow_p0,b5r v_0];apply hK;refine d1l ?_;refine b0i fun K1 hK1=>?_
 have J2:∀ (s_1:List Int) (t:Slots) (h:Heap),b2a h v_0 1 (List.map eI s_1)->(∀ j,j<h0.nx->b07 v_0 j->h.ob j=h0.ob j)->h0.nx<=h.nx->c9l s_1=some r->K1 t h:=by
  intro s_1 t h Q8 fr fx hm0;refine hK1 _ _ ?_;unfold c9l at hm0;simp only [b0s,b02,b0f];obtain rfl:=sI9 hm0;exact c4o (Post:=fun v h=>v = .tup []/\b2a h v_0 1 (List.map eI s_1)/\(∀ j,j<h0.nx->b07 v_0 j->h.ob j=h0.ob j)/\h0.nx<=h.nx) ⟨rfl,Q8,fr,fx⟩
 simp only [b0u];obtain ⟨b3,hl3,hm0⟩:=b0g hm0;refine b1j hl3 (fun|(s_0,i_2,j_3),t,h=>t 0=v_0/\t 2=I i_2/\t 3=I j_3/\b2a h v_0 1 (List.map eI s_0)/\(∀ j,j<h0.nx->b07 v_0 j->h.ob j=h0.ob j)/\h0.nx<=h.nx) ?_ ?_
 ·exact ⟨s0,va9,va9,ow_p0,fr,fx⟩
 ·rintro ⟨s_0,i_2,j_3⟩ o t h ⟨s0,s2,s3,Q6,fr,fx⟩ hm1 hb3;simp only [c1j] at hm1;rw [g5g];refine b0v ?_;apply b0b;intro K hK;simp only [go_sem,s2,s3,b5r v_0];apply hK;refine b0i fun K4 hK4=>?_;simp only [go_sem];refine b0k (fun hc5=>?_) (fun hc5=>?_)
  ·rw [b0r hc5] at hm1;simp only [b0s,b02,b0f];refine hK4 _ _ ?_;refine b0i fun K6 hK6=>?_;simp only [b0u];obtain ⟨x11,h_x11,hm1⟩:=b0g hm1;have h_x110:=b05 h_x11;have h_x111:=b06 h_x11;obtain ⟨iq12,e_iq12,Q7,Q5⟩:=l3q Q6 h_x11;obtain ⟨x13,h_x13,hm1⟩:=b0g hm1;have h_x130:=b05 h_x13;have h_x131:=b06 h_x13;obtain ⟨x14,h_x14,hm1⟩:=b0g hm1;have h_x140:=b05 h_x14;have h_x141:=b06 h_x14; (try simp only [List.length_set] at h_x141);apply b03;intro K hK;simp only [go_sem,s0,s2,s3,Q7,Q5,b08 h_x11,b3n h_x11,h_x110,h_x111,b08 h_x13,b3n h_x13,h_x130,h_x131,b08 h_x14,b3n h_x14,h_x140,h_x141,e_iq12];apply hK;simp only [b02,b0f];refine hK6 _ _ ?_;apply b03;intro K hK;simp only [go_sem,s2,s3,Q5,e_iq12];apply hK;simp only [b02,b0f];obtain rfl:=sI9 hm1;refine ⟨_,rfl,?_⟩;exact ⟨(by first|(simp only [go_sem,s0,lA9,mA9,e_iq12]; done)|rfl),(by first|(simp only [go_sem,s2,lA9,mA9,e_iq12]; done)|rfl),(by first|(simp only [go_sem,s3,lA9,mA9,e_iq12]; done)|rfl),(by rw [e_iq12]; exact (b2v (by simp only [go_sem,Q7,Q5,lA9,mA9,e_iq12]) (by first|rfl|simp only [go_sem,lA9,mA9,e_iq12]) (by simp only [go_sem,Q5,e_iq12]))),(by intro j hj hx0; first|exact fr j hj hx0|(refine Eq.trans ?_ (fr j hj hx0); first|rfl|simp only [go_sem,Nat.lt_of_lt_of_le hj fx,hx0,G6w (l0p e_iq12 hx0),b1z (G6w (l0p e_iq12 hx0)),e_iq12])),(by first|exact fx|omega|(simp only [go_sem,nxs] <;> omega))⟩
  ·rw [b0q hc5] at hm1;simp only [b09,b1b,b1a,c0s,b02,b0f,Nat.reduceEqDiff,nF9];obtain rfl:=sI9 hm1;obtain rfl:=hb3 _ rfl
   try dsimp only at hm0
   exact J2 s_0 _ _ Q6 fr fx hm0
end Go.Nw.YM
