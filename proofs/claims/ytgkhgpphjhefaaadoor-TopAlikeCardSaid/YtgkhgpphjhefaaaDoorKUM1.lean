/- That the texts make what their models say: printed by a program. -/
import Derived.Test.YtgkhgpphjhefaaaDoorUM
set_option linter.all false
namespace Go.Nw.UM
open Go.Nw.Tp2
set_option maxHeartbeats 4000000
variable {O:Orac} [MapsOk O]
theorem r2d (hf:Has O "slices.Clone[[]int,int]" x_slices_Clone___int_int_):r12 O:=by
 intro s r hm0;unfold r1w at hm0;refine j04 hf rfl (b0a (b0c fun a _=>b1t a) b0j) (by first|exact r24|exact r23) ?_;refine b1c (fun t h=>t 0 = .fs 1 (List.map eI s)) rfl fun t h s0=>?_;simp only [x_slices_Clone___int_int_];apply b0b;intro K hK;simp only [go_sem];apply hK;refine b0v ?_;obtain ⟨q2,h_q2,hm0⟩:=b0g hm0;apply b0b;intro K hK;simp only [go_sem,s0,r36 h_q2,L2r h_q2];apply hK;refine b0i fun K3 hK3=>?_;simp only [go_sem];refine b0k (fun hc4=>?_) (fun hc4=>?_)
 ·rw [b0r hc4] at hm0;apply b0b;intro K hK;simp only [go_sem];apply hK;simp only [b0x,b1p,b2e,b0y];simp_all only [r4d]
 ·rw [b0q hc4] at hm0;simp only [b0s,b02,b0f];refine hK3 _ _ ?_;obtain ⟨l6,h_l6,hm0⟩:=b0g hm0;apply b0b;intro K hK;simp only [go_sem,s0];refine b3a (f:=eI) (l:=([])) (m:=s) ?_ ?_ ?_ ?_ h_l6 ?_
  ·exact (b2v vb9 vb9 ve9)
  ·exact b7j
  ·exact b7i
  ·exact (fun e=>by cases e)
  simp only [go_sem,s0];apply hK;simp only [b0x,b1p,b2e,b0y];obtain rfl:=sI9 hm0;exact g9v (id:=(nxs h.nx)) vb9 vb9 (by first|exact r24|exact r23)
theorem u3l (hf:Has O "newel/faults.search$1" x_faults_searchD1):s98 O:=by
 intro p0_;generalize hm0:u29 p0_=r;unfold u29 at hm0;refine b1i hf rfl (b0a (b0e _) b0j) (b0e _) ?_;refine b1c (fun t h=>t 0=I p0_) rfl fun t h s0=>?_;simp only [x_faults_searchD1];apply b0b;intro K hK;simp only [go_sem];apply hK;apply b0b;intro K hK;simp only [go_sem];apply hK;simp only [b0x,b1p,b2e,b0y];obtain rfl:=hm0;exact b04 vb9 (b0e _)
theorem u3m (hf:Has O "newel/faults.search$2" x_faults_searchD2):z1x O:=by
 intro p0_ p1_ p2_;generalize hm0:u3a p0_ p1_ p2_=r;unfold u3a at hm0;refine b1i hf rfl (b0a (b0e _) (b0a (.agg _ (b0a (b0e _) (b0a (b0e _) (b0a (b0e _) b0j)))) (b0a (b0e _) b0j))) (b0e _) ?_;refine b1c (fun t h=>t 0=I p0_/\t 1 = .agg [I p1_.State,I p1_.Values.1,I p1_.Values.2]/\t 2=I p2_) ⟨rfl,rfl,rfl⟩ fun t h ⟨s0,s1,s2⟩=>?_;simp only [x_faults_searchD2];apply b0b;intro K hK;simp only [go_sem,s1];apply hK;apply b0b;intro K hK;simp only [go_sem];apply hK;simp only [b0x,b1p,b2e,b0y];obtain rfl:=hm0;exact b04 vb9 (b0e _)
theorem u3f (hf:Has O "(*newel/faults.inquiry).heard" x___faults_inquiry__heard):u1g O:=by
 intro q i_0 d1 d2 tick input keep_n keep_a keep_b keep keep_z keep_h fits_n fits_a fits_b fits fits_z fits_h h0 ob_p0 lt_p0 r hm0;unfold s9e at hm0;refine d8g hf rfl ?_;refine b1c (fun t h=>t 0 = .rp i_0 0 0/\t 1=I tick/\t 2=I input/\h.ob i_0=some (20,[(vQ q (.fn keep_n keep_a keep_b) (.fn fits_n fits_a fits_b) d1 d2)])/\i_0<h.nx/\(∀ j,j<h0.nx->h.ob j=h0.ob j)/\h0.nx<=h.nx) ⟨rfl,rfl,rfl,ob_p0,lt_p0,fun _ _=>rfl,Nat.le_refl _⟩ fun t h ⟨s0,s1,s2,ob_p0,lt_p0,fr,fx⟩=>?_;simp only [x___faults_inquiry__heard];apply b0b;intro K hK;simp only [go_sem,lt_p0];apply hK;refine b0v ?_;refine b2p (fun t h=>t 0 = .rp i_0 0 0/\t 2=I input/\t 21=B ((decide (q.theory.Input<0)) || (decide (tick<q.theory.From)))/\h.ob i_0=some (20,[(vQ q (.fn keep_n keep_a keep_b) (.fn fits_n fits_a fits_b) d1 d2)])/\i_0<h.nx/\(∀ j,j<h0.nx->h.ob j=h0.ob j)/\h0.nx<=h.nx) (fun K hK=>?_) ?_
 ·simp only [go_sem,s0,s1,ob_p0,lt_p0];refine b0k (fun hg1=>?_) (fun hg1=>?_)
  ·simp only [go_sem,s0,s1,ob_p0,lt_p0,hg1];exact hK _ _ ⟨s0,s2,(by first|(simp only [go_sem,hg1,lA9,mA9]; done)|rfl),ob_p0,lt_p0,fr,fx⟩
  ·simp only [go_sem,s0,s1,ob_p0,lt_p0,hg1];exact hK _ _ ⟨s0,s2,(by first|(simp only [go_sem,hg1,lA9,mA9]; done)|rfl),ob_p0,lt_p0,fr,fx⟩
 ·rintro t h ⟨s0,s2,s21,Q6,Q0,fr,fx⟩;refine b0i fun K2 hK2=>?_;simp only [go_sem,s21];refine b0k (fun hc3=>?_) (fun hc3=>?_)
  ·rw [b0r hc3] at hm0;apply b0b;intro K hK;simp only [go_sem,s2,Q0];apply hK;simp only [b0x,b1p,b2e,b0y];obtain rfl:=sI9 hm0;exact y65 (Post:=fun v h=>v=I input/\(∀ j,j<h0.nx->h.ob j=h0.ob j)/\h0.nx<=h.nx) (v:=I input) (by simp only [go_sem,Q6,Q0,lA9,mA9]) ⟨rfl,fr,fx⟩
  ·rw [b0q hc3] at hm0;simp only [b0s,b02,b0f];refine hK2 _ _ ?_;obtain ⟨q6,h_q6,hm0⟩:=b0g hm0;obtain ⟨q7,h_q7,hm0⟩:=b0g hm0;apply b0b;intro K hK;simp only [go_sem,s0,s2,Q6,Q0,B8s h_q6,B8s h_q7];apply hK;simp only [b0x,b1p,b2e,b0y];obtain rfl:=sI9 hm0;exact y65 (Post:=fun v h=>v=I (bor (g6a input q6) q7)/\(∀ j,j<h0.nx->h.ob j=h0.ob j)/\h0.nx<=h.nx) (v:=I (bor (g6a input q6) q7)) (by simp only [go_sem,Q6,Q0,lA9,mA9]) ⟨rfl,fr,fx⟩
theorem u3g (hf:Has O "(*newel/faults.inquiry).seen" x___faults_inquiry__seen) (b52:b89 O):u1h O:=by
 intro q i_0 d1 d2 m input keep_n keep_a keep_b keep keep_z keep_h fits_n fits_a fits_b fits fits_z fits_h h0 ob_p0 lt_p0 r hm0;unfold s9f at hm0;refine d8g hf rfl ?_;refine b1c (fun t h=>t 0 = .rp i_0 0 0/\t 1 = .agg [I m.tick,I m.place.State,I m.place.Values.1,I m.place.Values.2,I m.done]/\t 2=I input/\h.ob i_0=some (20,[(vQ q (.fn keep_n keep_a keep_b) (.fn fits_n fits_a fits_b) d1 d2)])/\i_0<h.nx/\(∀ j,j<h0.nx->h.ob j=h0.ob j)/\h0.nx<=h.nx) ⟨rfl,rfl,rfl,ob_p0,lt_p0,fun _ _=>rfl,Nat.le_refl _⟩ fun t h ⟨s0,s1,s2,ob_p0,lt_p0,fr,fx⟩=>?_;simp only [x___faults_inquiry__seen];apply b0b;intro K hK;simp only [go_sem,s1,lt_p0];apply hK;apply b0b;intro K hK;simp only [go_sem,lt_p0];apply hK;refine b0v ?_;apply b0b;intro K hK;simp only [go_sem,s0,ob_p0,lt_p0];apply hK;refine b0i fun K1 hK1=>?_
 have J2:∀ (done_8:Int) (t:Slots) (h:Heap),t 8=I done_8->(∀ j,j<h0.nx->h.ob j=h0.ob j)->h0.nx<=h.nx->u2v done_8=some r->K1 t h:=by
  intro done_8 t h s8 fr fx hm0;refine hK1 _ _ ?_;unfold u2v at hm0;apply b0b;intro K hK;simp only [go_sem,s8];apply hK;simp only [b0x,b1p,b2e,b0y];obtain rfl:=sI9 hm0;exact u39 (Post:=fun v h=>v = .tup [I ((done_8,true).1),B ((done_8,true).2)]/\(∀ j,j<h0.nx->h.ob j=h0.ob j)/\h0.nx<=h.nx) (v:=I done_8) (u:=B true) vb9 vb9 ⟨rfl,fr,fx⟩
 simp only [b0u];obtain ⟨b3,hl3,hm0⟩:=b0g hm0;refine b1j hl3 (fun|(done_8,x_20),t,h=>t 0 = .rp i_0 0 0/\t 2=I input/\t 4 = .fp [I m.tick,I m.place.State,I m.place.Values.1,I m.place.Values.2,I m.done] 0/\t 8=I done_8/\t 18 = .fs 4 (List.map c26 q.Accident.Records)/\t 19=I (List.length q.Accident.Records:Int)/\t 20=I x_20/\h.ob i_0=some (20,[(vQ q (.fn keep_n keep_a keep_b) (.fn fits_n fits_a fits_b) d1 d2)])/\i_0<h.nx/\(∀ j,j<h0.nx->h.ob j=h0.ob j)/\h0.nx<=h.nx) ?_ ?_
 ·exact ⟨s0,s2,va9,va9,va9,va9,va9,ob_p0,lt_p0,fr,fx⟩
 ·rintro ⟨done_8,x_20⟩ o t h ⟨s0,s2,s4,s8,s18,s19,s20,Q6,Q0,fr,fx⟩ hm1 hb3;simp only [u0d] at hm1;rw [u5p];apply b0b;intro K hK;simp only [go_sem,s19,s20,Q0];apply hK;refine b0i fun K4 hK4=>?_;simp only [go_sem];refine b0k (fun hc5=>?_) (fun hc5=>?_)
  ·rw [b0r hc5] at hm1;simp only [b0s,b02,b0f];refine hK4 _ _ ?_;refine b0i fun K6 hK6=>?_
   have J7:∀ (done_8_1:Int) (t:Slots) (h:Heap),t 0 = .rp i_0 0 0->t 2=I input->t 4 = .fp [I m.tick,I m.place.State,I m.place.Values.1,I m.place.Values.2,I m.done] 0->t 8=I done_8_1->t 18 = .fs 4 (List.map c26 q.Accident.Records)->t 19=I (List.length q.Accident.Records:Int)->t 20=I x_20->h.ob i_0=some (20,[(vQ q (.fn keep_n keep_a keep_b) (.fn fits_n fits_a fits_b) d1 d2)])->i_0<h.nx->(∀ j,j<h0.nx->h.ob j=h0.ob j)->h0.nx<=h.nx->s82 x_20 done_8_1=some o->K6 t h:=by
    try clear s0 s2 s4 s8 s18 s19 s20 Q6 Q0 fr fx
    intro done_8_1 t h s0 s2 s4 s8 s18 s19 s20 Q6 Q0 fr fx hm1;refine hK6 _ _ ?_;unfold s82 at hm1;apply b03;intro K hK;simp only [go_sem,s20,Q0];apply hK;simp only [b02,b0f];obtain rfl:=sI9 hm1;refine ⟨_,rfl,?_⟩;exact ⟨s0,s2,s4,s8,s18,s19,(by first|(simp only [go_sem,s20,lA9,mA9]; done)|rfl),Q6,Q0,fr,fx⟩
   simp only [b0u];obtain ⟨x9,h_x9,hm1⟩:=b0g hm1;have h_x90:=b05 h_x9;have h_x91:=b06 h_x9;apply b0b;intro K hK;simp only [go_sem,s18,s20,Q0,b08 h_x9,b3n h_x9,h_x90,h_x91];apply hK;refine b0v ?_;obtain ⟨y11,h_y11,hm1⟩:=b0g hm1;refine b2p (fun t h=>∃ i10:Nat,t 0 = .rp i_0 0 0/\t 2=I input/\t 4 = .fp [I m.tick,I m.place.State,I m.place.Values.1,I m.place.Values.2,I m.done] 0/\t 8=I done_8/\t 9=I x_20/\t 10 = .rp i10 0 0/\t 18 = .fs 4 (List.map c26 q.Accident.Records)/\t 19=I (List.length q.Accident.Records:Int)/\t 20=I x_20/\t 45=B (((!y11) || (decide (m.tick<x9.From))) || (decide (x9.To<m.tick)))/\h.ob i_0=some (20,[(vQ q (.fn keep_n keep_a keep_b) (.fn fits_n fits_a fits_b) d1 d2)])/\i_0<h.nx/\h.ob i10=some (4,[[I x9.From,I x9.To,B x9.All,.fs 1 (List.map b0t x9.Cond)]])/\i10<h.nx/\¬i_0=i10/\(∀ j,j<h0.nx->h.ob j=h0.ob j)/\h0.nx<=h.nx/\h0.nx<=i10) (fun K hK=>?_) ?_
   ·simp only [go_sem,s0,s4,Q6,Q0];refine o5t (keep_h x_20 _ h_y11) ?_;simp only [go_sem,s0,s4,Q6,Q0];refine b0k (fun hg12=>?_) (fun hg12=>?_)
    ·simp only [go_sem,s0,s4,Q6,Q0,hg12];exact hK _ _ ⟨h.nx,s0,s2,s4,s8,(by first|(simp only [go_sem,hg12,lA9,mA9]; done)|rfl),(by first|(simp only [go_sem,hg12,lA9,mA9]; done)|rfl),s18,s19,s20,(by first|(simp only [go_sem,hg12,lA9,mA9]; done)|rfl),(by simp only [go_sem,Q6,Q0,hg12,lA9,mA9]),(by simp only [go_sem,Q0]),(by simp only [go_sem,hg12,lA9,mA9]),ve9,vd9,(by intro j hj; first|exact fr j hj|(refine Eq.trans ?_ (fr j hj); first|rfl|simp only [go_sem,Nat.lt_of_lt_of_le hj fx])),(by first|exact fx|omega|(simp only [go_sem,nxs] <;> omega)),(by first|assumption|omega|(simp only [nxs] <;> omega))⟩
    ·simp only [go_sem,s0,s4,Q6,Q0,hg12];refine b0k (fun hg13=>?_) (fun hg13=>?_)
     ·simp only [go_sem,s0,s4,Q6,Q0,hg12,hg13];exact hK _ _ ⟨h.nx,s0,s2,s4,s8,(by first|(simp only [go_sem,hg12,hg13,lA9,mA9]; done)|rfl),(by first|(simp only [go_sem,hg12,hg13,lA9,mA9]; done)|rfl),s18,s19,s20,(by first|(simp only [go_sem,hg12,hg13,lA9,mA9]; done)|rfl),(by simp only [go_sem,Q6,Q0,hg12,hg13,lA9,mA9]),(by simp only [go_sem,Q0]),(by simp only [go_sem,hg12,hg13,lA9,mA9]),ve9,vd9,(by intro j hj; first|exact fr j hj|(refine Eq.trans ?_ (fr j hj); first|rfl|simp only [go_sem,Nat.lt_of_lt_of_le hj fx])),(by first|exact fx|omega|(simp only [go_sem,nxs] <;> omega)),(by first|assumption|omega|(simp only [nxs] <;> omega))⟩
     ·simp only [go_sem,s0,s4,Q6,Q0,hg12,hg13];exact hK _ _ ⟨h.nx,s0,s2,s4,s8,(by first|(simp only [go_sem,hg12,hg13,lA9,mA9]; done)|rfl),(by first|(simp only [go_sem,hg12,hg13,lA9,mA9]; done)|rfl),s18,s19,s20,(by first|(simp only [go_sem,hg12,hg13,lA9,mA9]; done)|rfl),(by simp only [go_sem,Q6,Q0,hg12,hg13,lA9,mA9]),(by simp only [go_sem,Q0]),(by simp only [go_sem,hg12,hg13,lA9,mA9]),ve9,vd9,(by intro j hj; first|exact fr j hj|(refine Eq.trans ?_ (fr j hj); first|rfl|simp only [go_sem,Nat.lt_of_lt_of_le hj fx])),(by first|exact fx|omega|(simp only [go_sem,nxs] <;> omega)),(by first|assumption|omega|(simp only [nxs] <;> omega))⟩
   ·try clear s0 s2 s4 s8 s18 s19 s20 Q6 Q0 fr fx
    rintro t h ⟨i10,s0,s2,s4,s8,s9,s10,s18,s19,s20,s45,Q6,Q0,Q8,Q7,Q2,fr,fx,Qe⟩;refine b0i fun K14 hK14=>?_;simp only [go_sem,s45];refine b0k (fun hc15=>?_) (fun hc15=>?_)
    ·rw [b0r hc15] at hm1;simp only [b09,b1b,b1a,c0s,b02,b0f,Nat.reduceEqDiff,nF9];exact J7 done_8 _ _ s0 s2 s4 s8 s18 s19 s20 Q6 Q0 fr fx hm1
    ·rw [b0q hc15] at hm1;simp only [b0s,b02,b0f];refine hK14 _ _ ?_;obtain ⟨y17,h_y17,hm1⟩:=b0g hm1;apply b0b;intro K hK;simp only [go_sem,s0,s2,s4,s10,Q6,Q0,Q8,Q7,Q2,b1z Q2];refine b01 (b52 q.plant x9.Cond (Place.mk m.place.State (m.place.Values.1,m.place.Values.2)) input _ h_y17) ?_;simp only [go_sem,s0,s2,s4,s10,Q6,Q0,Q8,Q7,Q2,b1z Q2];apply hK;refine b0i fun K18 hK18=>?_
     have J19:∀ (done_8_1:Int) (t:Slots) (h:Heap),t 0 = .rp i_0 0 0->t 2=I input->t 4 = .fp [I m.tick,I m.place.State,I m.place.Values.1,I m.place.Values.2,I m.done] 0->t 8=I done_8_1->t 9=I x_20->t 10 = .rp i10 0 0->t 18 = .fs 4 (List.map c26 q.Accident.Records)->t 19=I (List.length q.Accident.Records:Int)->t 20=I x_20->h.ob i_0=some (20,[(vQ q (.fn keep_n keep_a keep_b) (.fn fits_n fits_a fits_b) d1 d2)])->i_0<h.nx->h.ob i10=some (4,[[I x9.From,I x9.To,B x9.All,.fs 1 (List.map b0t x9.Cond)]])->i10<h.nx->¬i_0=i10->(∀ j,j<h0.nx->h.ob j=h0.ob j)->h0.nx<=h.nx->h0.nx<=i10->s81 m x_20 x9 done_8_1=some o->K18 t h:=by
      try clear s0 s2 s4 s8 s9 s10 s18 s19 s20 s45 Q6 Q0 Q8 Q7 Q2 fr fx Qe
      intro done_8_1 t h s0 s2 s4 s8 s9 s10 s18 s19 s20 Q6 Q0 Q8 Q7 Q2 fr fx Qe hm1;refine hK18 _ _ ?_;unfold s81 at hm1;apply b0b;intro K hK;simp only [go_sem,s4,s10,Q8,Q7,Q0,Q2,b1z Q2];apply hK;simp only [go_sem];refine b0k (fun hc20=>?_) (fun hc20=>?_)
      ·rw [b0r hc20] at hm1;obtain ⟨q22,h_q22,hm1⟩:=b0g hm1;apply b03;intro K hK;simp only [go_sem,s8,s9,Q0,Q7,B8s h_q22];apply hK;simp only [b02,b0f];exact J7 (g6a done_8_1 q22) _ _ s0 s2 s4 (by first|(simp only [go_sem,s8,lA9,mA9]; done)|rfl) s18 s19 s20 Q6 Q0 fr fx hm1
      ·rw [b0q hc20] at hm1;simp only [b0s,b02,b0f];exact J7 done_8_1 _ _ s0 s2 s4 s8 s18 s19 s20 Q6 Q0 fr fx hm1
     simp only [b0u];refine b2p (fun t h=>t 0 = .rp i_0 0 0/\t 2=I input/\t 4 = .fp [I m.tick,I m.place.State,I m.place.Values.1,I m.place.Values.2,I m.done] 0/\t 8=I done_8/\t 9=I x_20/\t 10 = .rp i10 0 0/\t 11=B y17/\t 18 = .fs 4 (List.map c26 q.Accident.Records)/\t 19=I (List.length q.Accident.Records:Int)/\t 20=I x_20/\t 56=B (x9.All && (!y17))/\h.ob i_0=some (20,[(vQ q (.fn keep_n keep_a keep_b) (.fn fits_n fits_a fits_b) d1 d2)])/\i_0<h.nx/\h.ob i10=some (4,[[I x9.From,I x9.To,B x9.All,.fs 1 (List.map b0t x9.Cond)]])/\i10<h.nx/\¬i_0=i10/\(∀ j,j<h0.nx->h.ob j=h0.ob j)/\h0.nx<=h.nx/\h0.nx<=i10) (fun K hK=>?_) ?_
     ·simp only [go_sem,s10,Q8,Q7,Q0,Q2,b1z Q2];refine b0k (fun hg23=>?_) (fun hg23=>?_)
      ·simp only [go_sem,s10,Q8,Q7,Q0,Q2,b1z Q2,hg23];exact hK _ _ ⟨s0,s2,s4,s8,s9,s10,(by first|(simp only [go_sem,hg23,lA9,mA9]; done)|rfl),s18,s19,s20,(by first|(simp only [go_sem,hg23,lA9,mA9]; done)|rfl),Q6,Q0,Q8,Q7,Q2,fr,fx,Qe⟩
      ·simp only [go_sem,s10,Q8,Q7,Q0,Q2,b1z Q2,hg23];exact hK _ _ ⟨s0,s2,s4,s8,s9,s10,(by first|(simp only [go_sem,hg23,lA9,mA9]; done)|rfl),s18,s19,s20,(by first|(simp only [go_sem,hg23,lA9,mA9]; done)|rfl),Q6,Q0,Q8,Q7,Q2,fr,fx,Qe⟩
     ·try clear s0 s2 s4 s8 s9 s10 s18 s19 s20 s45 Q6 Q0 Q8 Q7 Q2 fr fx Qe
      rintro t h ⟨s0,s2,s4,s8,s9,s10,s11,s18,s19,s20,s56,Q6,Q0,Q8,Q7,Q2,fr,fx,Qe⟩;simp only [go_sem,s56];refine b0k (fun hc24=>?_) (fun hc24=>?_)
      ·rw [b0r hc24] at hm1;apply b0b;intro K hK;simp only [go_sem,Q0,Q7];apply hK;simp only [b0x,b1p,b2e,b0y];obtain rfl:=sI9 hm1;obtain rfl:=hb3 _ rfl
       try dsimp only at hm0
       obtain rfl:=sI9 hm0;exact u39 (Post:=fun v h=>v = .tup [I ((0,false).1),B ((0,false).2)]/\(∀ j,j<h0.nx->h.ob j=h0.ob j)/\h0.nx<=h.nx) (v:=I 0) (u:=B false) (by simp only [go_sem,Q6,Q0,Q8,Q7,Q2,b1z Q2,lA9,mA9]) (by simp only [go_sem,Q6,Q0,Q8,Q7,Q2,b1z Q2,lA9,mA9]) ⟨rfl,fr,fx⟩
      ·rw [b0q hc24] at hm1;apply b0b;intro K hK;simp only [go_sem,s10,Q8,Q7,Q0,Q2,b1z Q2];apply hK;simp only [go_sem];refine b0k (fun hc25=>?_) (fun hc25=>?_)
       ·rw [b0r hc25] at hm1;simp only [b0s,b02,b0f];exact J19 done_8 _ _ s0 s2 s4 s8 s9 s10 s18 s19 s20 Q6 Q0 Q8 Q7 Q2 fr fx Qe hm1
       ·rw [b0q hc25] at hm1;refine b2p (fun t h=>t 0 = .rp i_0 0 0/\t 2=I input/\t 4 = .fp [I m.tick,I m.place.State,I m.place.Values.1,I m.place.Values.2,I m.done] 0/\t 8=I done_8/\t 9=I x_20/\t 10 = .rp i10 0 0/\t 11=B y17/\t 18 = .fs 4 (List.map c26 q.Accident.Records)/\t 19=I (List.length q.Accident.Records:Int)/\t 20=I x_20/\t 66=B (y17 && (decide (m.tick<x9.To)))/\h.ob i_0=some (20,[(vQ q (.fn keep_n keep_a keep_b) (.fn fits_n fits_a fits_b) d1 d2)])/\i_0<h.nx/\h.ob i10=some (4,[[I x9.From,I x9.To,B x9.All,.fs 1 (List.map b0t x9.Cond)]])/\i10<h.nx/\¬i_0=i10/\(∀ j,j<h0.nx->h.ob j=h0.ob j)/\h0.nx<=h.nx/\h0.nx<=i10) (fun K hK=>?_) ?_
        ·simp only [go_sem,s4,s10,s11,Q8,Q7,Q0,Q2,b1z Q2];refine b0k (fun hg26=>?_) (fun hg26=>?_)
         ·simp only [go_sem,s4,s10,s11,Q8,Q7,Q0,Q2,b1z Q2,hg26];exact hK _ _ ⟨s0,s2,s4,s8,s9,s10,s11,s18,s19,s20,(by first|(simp only [go_sem,hg26,lA9,mA9]; done)|rfl),Q6,Q0,Q8,Q7,Q2,fr,fx,Qe⟩
         ·simp only [go_sem,s4,s10,s11,Q8,Q7,Q0,Q2,b1z Q2,hg26];exact hK _ _ ⟨s0,s2,s4,s8,s9,s10,s11,s18,s19,s20,(by first|(simp only [go_sem,hg26,lA9,mA9]; done)|rfl),Q6,Q0,Q8,Q7,Q2,fr,fx,Qe⟩
        ·try clear s0 s2 s4 s8 s9 s10 s11 s18 s19 s20 s56 Q6 Q0 Q8 Q7 Q2 fr fx Qe
         rintro t h ⟨s0,s2,s4,s8,s9,s10,s11,s18,s19,s20,s66,Q6,Q0,Q8,Q7,Q2,fr,fx,Qe⟩;simp only [go_sem,s66];refine b0k (fun hc27=>?_) (fun hc27=>?_)
         ·rw [b0r hc27] at hm1;obtain ⟨q29,h_q29,hm1⟩:=b0g hm1;apply b03;intro K hK;simp only [go_sem,s8,s9,Q0,Q7,B8s h_q29];apply hK;simp only [b02,b0f];exact J19 (bor done_8 q29) _ _ s0 s2 s4 (by first|(simp only [go_sem,s8,lA9,mA9]; done)|rfl) s9 s10 s18 s19 s20 Q6 Q0 Q8 Q7 Q2 fr fx Qe hm1
         ·rw [b0q hc27] at hm1;obtain ⟨c33,h_c33,hm1⟩:=b0g hm1;refine b2p (fun t h=>t 0 = .rp i_0 0 0/\t 2=I input/\t 4 = .fp [I m.tick,I m.place.State,I m.place.Values.1,I m.place.Values.2,I m.done] 0/\t 8=I done_8/\t 9=I x_20/\t 10 = .rp i10 0 0/\t 18 = .fs 4 (List.map c26 q.Accident.Records)/\t 19=I (List.length q.Accident.Records:Int)/\t 20=I x_20/\t 79=B c33/\h.ob i_0=some (20,[(vQ q (.fn keep_n keep_a keep_b) (.fn fits_n fits_a fits_b) d1 d2)])/\i_0<h.nx/\h.ob i10=some (4,[[I x9.From,I x9.To,B x9.All,.fs 1 (List.map b0t x9.Cond)]])/\i10<h.nx/\¬i_0=i10/\(∀ j,j<h0.nx->h.ob j=h0.ob j)/\h0.nx<=h.nx/\h0.nx<=i10) (fun K hK=>?_) ?_
          ·simp only [go_sem,s4,s8,s9,s10,s11,Q8,Q7,Q0,Q2,b1z Q2];refine b0k (fun hg34=>?_) (fun hg34=>?_)
           ·simp only [go_sem,s4,s8,s9,s10,s11,Q8,Q7,Q0,Q2,b1z Q2,hg34];refine b0k (fun hg35=>?_) (fun hg35=>?_)
            ·simp only [hg34,hg35,Bool.not_true,Bool.not_false,eq_self,if_true,if_false,Bool.true_or,Bool.or_true,Bool.false_or,Bool.or_false,Bool.true_and,Bool.and_true,Bool.false_and,Bool.and_false,fT9] at h_c33;obtain ⟨q32,h_q32,h_c33⟩:=b0g h_c33;obtain rfl:=sI9 h_c33;simp only [go_sem,s4,s8,s9,s10,s11,Q8,Q7,Q0,Q2,b1z Q2,c7d h_q32,hg34,hg35];exact hK _ _ ⟨s0,s2,s4,s8,s9,s10,s18,s19,s20,(by first|(simp only [go_sem,hg34,hg35,lA9,mA9]; done)|rfl),Q6,Q0,Q8,Q7,Q2,fr,fx,Qe⟩
            ·simp only [hg34,hg35,Bool.not_true,Bool.not_false,eq_self,if_true,if_false,Bool.true_or,Bool.or_true,Bool.false_or,Bool.or_false,Bool.true_and,Bool.and_true,Bool.false_and,Bool.and_false,fT9] at h_c33;obtain rfl:=sI9 h_c33;simp only [go_sem,s4,s8,s9,s10,s11,Q8,Q7,Q0,Q2,b1z Q2,hg34,hg35];exact hK _ _ ⟨s0,s2,s4,s8,s9,s10,s18,s19,s20,(by first|(simp only [go_sem,hg34,hg35,lA9,mA9]; done)|rfl),Q6,Q0,Q8,Q7,Q2,fr,fx,Qe⟩
           ·simp only [hg34,Bool.not_true,Bool.not_false,eq_self,if_true,if_false,Bool.true_or,Bool.or_true,Bool.false_or,Bool.or_false,Bool.true_and,Bool.and_true,Bool.false_and,Bool.and_false,fT9] at h_c33;obtain rfl:=sI9 h_c33;simp only [go_sem,s4,s8,s9,s10,s11,Q8,Q7,Q0,Q2,b1z Q2,hg34];exact hK _ _ ⟨s0,s2,s4,s8,s9,s10,s18,s19,s20,(by first|(simp only [go_sem,hg34,lA9,mA9]; done)|rfl),Q6,Q0,Q8,Q7,Q2,fr,fx,Qe⟩
          ·try clear s0 s2 s4 s8 s9 s10 s11 s18 s19 s20 s66 Q6 Q0 Q8 Q7 Q2 fr fx Qe
           rintro t h ⟨s0,s2,s4,s8,s9,s10,s18,s19,s20,s79,Q6,Q0,Q8,Q7,Q2,fr,fx,Qe⟩;simp only [go_sem,s79];refine b0k (fun hc36=>?_) (fun hc36=>?_)
           ·rw [b0r hc36] at hm1;apply b0b;intro K hK;simp only [go_sem,Q0,Q7];apply hK;simp only [b0x,b1p,b2e,b0y];obtain rfl:=sI9 hm1;obtain rfl:=hb3 _ rfl
            try dsimp only at hm0
            obtain rfl:=sI9 hm0;exact u39 (Post:=fun v h=>v = .tup [I ((0,false).1),B ((0,false).2)]/\(∀ j,j<h0.nx->h.ob j=h0.ob j)/\h0.nx<=h.nx) (v:=I 0) (u:=B false) (by simp only [go_sem,Q6,Q0,Q8,Q7,Q2,b1z Q2,lA9,mA9]) (by simp only [go_sem,Q6,Q0,Q8,Q7,Q2,b1z Q2,lA9,mA9]) ⟨rfl,fr,fx⟩
           ·rw [b0q hc36] at hm1;simp only [b0s,b02,b0f];exact J19 done_8 _ _ s0 s2 s4 s8 s9 s10 s18 s19 s20 Q6 Q0 Q8 Q7 Q2 fr fx Qe hm1
  ·rw [b0q hc5] at hm1;simp only [b09,b1b,b1a,c0s,b02,b0f,Nat.reduceEqDiff,nF9];obtain rfl:=sI9 hm1;obtain rfl:=hb3 _ rfl
   try dsimp only at hm0
   exact J2 done_8 _ _ s8 fr fx hm0
theorem d2w (hf:Has O "(newel/situation.Plant).All" x__situation_Plant__All):c9y O:=by
 intro m r hm0;unfold c1y at hm0;refine b1i hf rfl (b0a (fM _) b0j) (b0e _) ?_;refine b1c (fun t h=>t 0 = .agg (vM m.Machine)) rfl fun t h s0=>?_;simp only [x__situation_Plant__All];apply b0b;intro K hK;simp only [go_sem,s0];apply hK;obtain ⟨q2,h_q2,hm0⟩:=b0g hm0;apply b0b;intro K hK;simp only [go_sem,B8s h_q2];apply hK;simp only [b0x,b1p,b2e,b0y];obtain rfl:=sI9 hm0;exact b04 vb9 (b0e _)
theorem d2x (hf:Has O "(newel/situation.Plant).Allowed" x__situation_Plant__Allowed) (b52:b89 O):c9z O:=by
 intro m assume p input r hm0;unfold c1z at hm0;refine b1i hf rfl (b0a (fM _) (b0a (b0c fun a _=>b2j a) (b0a (.agg _ (b0a (b0e _) (b0a (b0e _) (b0a (b0e _) b0j)))) (b0a (b0e _) b0j)))) (b0e _) ?_;refine b1c (fun t h=>t 0 = .agg (vM m.Machine)/\t 1 = .fs 1 (List.map b0t assume)/\t 2 = .agg [I p.State,I p.Values.1,I p.Values.2]/\t 3=I input) ⟨rfl,rfl,rfl,rfl⟩ fun t h ⟨s0,s1,s2,s3⟩=>?_;simp only [x__situation_Plant__Allowed];apply b0b;intro K hK;simp only [go_sem,s0,s2];apply hK;obtain ⟨c4,h_c4,hm0⟩:=b0g hm0;refine b2p (fun t h=>t 8=B c4) (fun K hK=>?_) ?_
 ·simp only [go_sem,s1,s3];refine b0k (fun hg5=>?_) (fun hg5=>?_)
  ·simp only [hg5,Bool.not_true,Bool.not_false,eq_self,if_true,if_false,Bool.true_or,Bool.or_true,Bool.false_or,Bool.or_false,Bool.true_and,Bool.and_true,Bool.false_and,Bool.and_false,fT9] at h_c4;obtain rfl:=sI9 h_c4;simp only [go_sem,s1,s3,hg5];exact hK _ _ (by first|(simp only [go_sem,hg5,lA9,mA9]; done)|rfl)
  ·simp only [hg5,Bool.not_true,Bool.not_false,eq_self,if_true,if_false,Bool.true_or,Bool.or_true,Bool.false_or,Bool.or_false,Bool.true_and,Bool.and_true,Bool.false_and,Bool.and_false,fT9] at h_c4;obtain ⟨y3,h_y3,h_c4⟩:=b0g h_c4;obtain rfl:=sI9 h_c4;simp only [go_sem,s1,s3,hg5];refine b01 (b52 m assume p input _ h_y3) ?_;simp only [go_sem,s1,s3,hg5];exact hK _ _ (by first|(simp only [go_sem,hg5,lA9,mA9]; done)|rfl)
 ·rintro t h s8;simp only [b0x,b1p,b2e,b0y];obtain rfl:=sI9 hm0;exact b04 (by simp only [go_sem,s8,lA9,mA9]) (b0e _)
theorem b52 (hf:Has O "(newel/situation.Plant).Holds" x__situation_Plant__Holds) (d3t:d0w O) (d2y:c90 O):b89 O:=by
 intro m c p input r hm0;unfold b6v at hm0;refine b1i hf rfl (b0a (fM _) (b0a (b0c fun a _=>b2j a) (b0a (.agg _ (b0a (b0e _) (b0a (b0e _) (b0a (b0e _) b0j)))) (b0a (b0e _) b0j)))) (b0e _) ?_;refine b1c (fun t h=>t 0 = .agg (vM m.Machine)/\t 1 = .fs 1 (List.map b0t c)/\t 2 = .agg [I p.State,I p.Values.1,I p.Values.2]/\t 3=I input) ⟨rfl,rfl,rfl,rfl⟩ fun t h ⟨s0,s1,s2,s3⟩=>?_;simp only [x__situation_Plant__Holds];apply b0b;intro K hK;simp only [go_sem,s0,s2,s3];apply hK;obtain ⟨y4,h_y4,hm0⟩:=b0g hm0;apply b0b;intro K hK;simp only [go_sem,s1];refine b01 (d3t c "(newel/situation.Plant).Holds$1" [] [.fp (vM m.Machine) 0,.fp [I p.State,I p.Values.1,I p.Values.2] 0,.fp [I input] 0] (fun z3=>b74 z3 m p input) (.fn _ _ _ b0j (b0a (.fp _ _ (b0a (b0c fun a _=>b0z a) (b0a (b0c fun a _=>b0z a) (b0a (b0c fun a _=>b1q a) (b0a (b0c fun a _=>b1s a) (b0a (b0c fun a _=>b1r a) b0j)))))) (b0a (.fp _ _ (b0a (b0e _) (b0a (b0e _) (b0a (b0e _) b0j)))) (b0a (.fp _ _ (b0a (b0e _) b0j)) b0j)))) (fun z0 y hz=>d2y z0 m p input y hz) _ h_y4) ?_;simp only [go_sem,s1]
 apply hK;simp only [b0x,b1p,b2e,b0y];obtain rfl:=sI9 hm0;exact b04 vb9 (b0e _)
theorem d2y (hf:Has O "(newel/situation.Plant).Holds$1" x__situation_Plant__HoldsD1) (b8n:c1o O) (d2z:c91 O):c90 O:=by
 intro t_ c0 c1 c2 r hm0;unfold b74 at hm0;refine b1i hf rfl (b0a (b0c fun a _=>c2w a) (b0a (.fp _ _ (b0a (b0c fun a _=>b0z a) (b0a (b0c fun a _=>b0z a) (b0a (b0c fun a _=>b1q a) (b0a (b0c fun a _=>b1s a) (b0a (b0c fun a _=>b1r a) b0j)))))) (b0a (.fp _ _ (b0a (b0e _) (b0a (b0e _) (b0a (b0e _) b0j)))) (b0a (.fp _ _ (b0a (b0e _) b0j)) b0j)))) (b0e _) ?_;refine b1c (fun t h=>t 0 = .fs 4 (List.map b3k t_)/\t 1 = .fp (vM c0.Machine) 0/\t 2 = .fp [I c1.State,I c1.Values.1,I c1.Values.2] 0/\t 3 = .fp [I c2] 0) ⟨rfl,rfl,rfl,rfl⟩ fun t h ⟨s0,s1,s2,s3⟩=>?_;simp only [x__situation_Plant__HoldsD1];apply b0b;intro K hK;simp only [go_sem];apply hK;obtain ⟨y4,h_y4,hm0⟩:=b0g hm0;apply b0b;intro K hK;simp only [go_sem,s0,s1,s2,s3];refine b01 (b8n t_ "(newel/situation.Plant).Holds$1$1" [] [.fp (vM c0.Machine) 0,.fp [I c1.State,I c1.Values.1,I c1.Values.2] 0,.fp [I c2] 0] (fun z3=>b76 z3 c0 c1 c2) (.fn _ _ _ b0j (b0a (.fp _ _ (b0a (b0c fun a _=>b0z a) (b0a (b0c fun a _=>b0z a) (b0a (b0c fun a _=>b1q a) (b0a (b0c fun a _=>b1s a) (b0a (b0c fun a _=>b1r a) b0j)))))) (b0a (.fp _ _ (b0a (b0e _) (b0a (b0e _) (b0a (b0e _) b0j)))) (b0a (.fp _ _ (b0a (b0e _) b0j)) b0j)))) (fun z0 y hz=>d2z z0 c0 c1 c2 y hz) _ h_y4) ?_
 simp only [go_sem,s0,s1,s2,s3];apply hK;simp only [b0x,b1p,b2e,b0y];obtain rfl:=sI9 hm0;exact b04 vb9 (b0e _)
theorem d2z (hf:Has O "(newel/situation.Plant).Holds$1$1" x__situation_Plant__HoldsD1D1) (d21:c93 O):c91 O:=by
 intro x c0 c1 c2 r hm0;unfold b76 at hm0;refine b1i hf rfl (b0a (.agg _ (b0a (b0e _) (b0a (b0e _) (b0a (b0e _) (b0a (b0e _) b0j))))) (b0a (.fp _ _ (b0a (b0c fun a _=>b0z a) (b0a (b0c fun a _=>b0z a) (b0a (b0c fun a _=>b1q a) (b0a (b0c fun a _=>b1s a) (b0a (b0c fun a _=>b1r a) b0j)))))) (b0a (.fp _ _ (b0a (b0e _) (b0a (b0e _) (b0a (b0e _) b0j)))) (b0a (.fp _ _ (b0a (b0e _) b0j)) b0j)))) (b0e _) ?_;refine b1c (fun t h=>t 0 = .agg [I x.Kind,I x.Number,I x.Value,B x.Not]/\t 1 = .fp (vM c0.Machine) 0/\t 2 = .fp [I c1.State,I c1.Values.1,I c1.Values.2] 0/\t 3 = .fp [I c2] 0) ⟨rfl,rfl,rfl,rfl⟩ fun t h ⟨s0,s1,s2,s3⟩=>?_;simp only [x__situation_Plant__HoldsD1D1];apply b0b;intro K hK;simp only [go_sem,s0];apply hK;obtain ⟨y2,h_y2,hm0⟩:=b0g hm0;apply b0b;intro K hK;simp only [go_sem,s1,s2,s3];refine b01 (d21 c0 x c1 c2 _ h_y2) ?_;simp only [go_sem,s1,s2,s3];apply hK;simp only [b0x,b1p,b2e,b0y];obtain rfl:=sI9 hm0;exact b04 vb9 (b0e _)
theorem d20 (hf:Has O "(newel/situation.Plant).Step" x__situation_Plant__Step) (b52:b89 O) (d22:c94 O):c92 O:=by
 intro m p input r hm0;unfold r7y at hm0;refine b1i hf rfl (b0a (fM _) (b0a (.agg _ (b0a (b0e _) (b0a (b0e _) (b0a (b0e _) b0j)))) (b0a (b0e _) b0j))) (.agg _ (b0a (b0e _) (b0a (b0e _) (b0a (b0e _) b0j)))) ?_;refine b1c (fun t h=>t 0 = .agg (vM m.Machine)/\t 1 = .agg [I p.State,I p.Values.1,I p.Values.2]/\t 2=I input) ⟨rfl,rfl,rfl⟩ fun t h ⟨s0,s1,s2⟩=>?_;simp only [x__situation_Plant__Step];apply b0b;intro K hK;simp only [go_sem,s0,s1];apply hK;refine b0v ?_;apply b0b;intro K hK;simp only [go_sem];apply hK;refine b0i fun K1 hK1=>?_
 have J2:∀ (p_4_0 p_4_1 p_4_2:Int) (i4 i6:Nat) (t:Slots) (h:Heap),t 4 = .rp i4 0 0->t 6 = .rp i6 0 0->h.ob i4=some (3,[[I p_4_0,I p_4_1,I p_4_2]])->i4<h.nx->h.ob i6=some (3,[[I 0,I 0,I 0]])->i6<h.nx->¬i4=i6->c6h p_4_0 p_4_1 p_4_2=some r->K1 t h:=by
  intro p_4_0 p_4_1 p_4_2 i4 i6 t h s4 s6 Q9 Q3 Qb Q5 Q4 hm0;refine hK1 _ _ ?_;unfold c6h at hm0;apply b0b;intro K hK;simp only [go_sem,s4,s6,Q9,Q3,Qb,Q5,Q4,b1z Q4];apply hK;simp only [b0x,b1p,b2e,b0y];obtain rfl:=sI9 hm0;exact L18 (id:=i6) (m:=3) (cs:=[I p_4_0,I p_4_1,I p_4_2]) (by simp only [go_sem,s6,Q9,Q3,Qb,Q5,Q4,b1z Q4,lA9,mA9]) (by simp only [go_sem,s6,Q9,Q3,Qb,Q5,Q4,b1z Q4,lA9,mA9]) rfl (.refl _ (.agg _ (b0a (b0e _) (b0a (b0e _) (b0a (b0e _) b0j)))))
 simp only [b0u];obtain ⟨b3,hl3,hm0⟩:=b0g hm0;refine b1j hl3 (fun|x_15,t,h=>∃ i4 i6:Nat,t 2=I input/\t 3 = .fp (vM m.Machine) 0/\t 4 = .rp i4 0 0/\t 6 = .rp i6 0 0/\t 13 = .fs 4 (List.map b0m m.Machine.Rules)/\t 14=I (List.length m.Machine.Rules:Int)/\t 15=I x_15/\h.ob i4=some (3,[[I p.State,I p.Values.1,I p.Values.2]])/\i4<h.nx/\h.ob i6=some (3,[[I 0,I 0,I 0]])/\i6<h.nx/\¬i4=i6) ?_ ?_
 ·exact ⟨h.nx,(nxs h.nx),s2,va9,va9,va9,va9,va9,va9,vb9,ve9,vb9,ve9,vd9⟩
 ·rintro x_15 o t h ⟨i4,i6,s2,s3,s4,s6,s13,s14,s15,Q9,Q3,Qb,Q5,Q4⟩ hm1 hb3;simp only [c6f] at hm1;rw [g37];apply b0b;intro K hK;simp only [go_sem,s14,s15,Q3,Q5];apply hK;refine b0i fun K4 hK4=>?_;simp only [go_sem];refine b0k (fun hc5=>?_) (fun hc5=>?_)
  ·rw [b0r hc5] at hm1;simp only [b0s,b02,b0f];refine hK4 _ _ ?_;refine b0i fun K6 hK6=>?_
   have J7:∀ (t:Slots) (h:Heap),t 2=I input->t 3 = .fp (vM m.Machine) 0->t 4 = .rp i4 0 0->t 6 = .rp i6 0 0->t 13 = .fs 4 (List.map b0m m.Machine.Rules)->t 14=I (List.length m.Machine.Rules:Int)->t 15=I x_15->h.ob i4=some (3,[[I p.State,I p.Values.1,I p.Values.2]])->i4<h.nx->h.ob i6=some (3,[[I 0,I 0,I 0]])->i6<h.nx->¬i4=i6->c6i x_15=some o->K6 t h:=by
    try clear s2 s3 s4 s6 s13 s14 s15 Q9 Q3 Qb Q5 Q4
    intro t h s2 s3 s4 s6 s13 s14 s15 Q9 Q3 Qb Q5 Q4 hm1;refine hK6 _ _ ?_;unfold c6i at hm1;apply b03;intro K hK;simp only [go_sem,s15,Q3,Q5];apply hK;simp only [b02,b0f];obtain rfl:=sI9 hm1;refine ⟨_,rfl,?_⟩;exact ⟨i4,i6,s2,s3,s4,s6,s13,s14,(by first|(simp only [go_sem,s15,lA9,mA9]; done)|rfl),Q9,Q3,Qb,Q5,Q4⟩
   simp only [b0u];obtain ⟨x9,h_x9,hm1⟩:=b0g hm1;have h_x90:=b05 h_x9;have h_x91:=b06 h_x9;apply b0b;intro K hK;simp only [go_sem,s13,s15,Q3,Q5,b08 h_x9,b3n h_x9,h_x90,h_x91];apply hK;refine b0v ?_;obtain ⟨c13,h_c13,hm1⟩:=b0g hm1;refine b2p (fun t h=>∃ i8:Nat,t 2=I input/\t 3 = .fp (vM m.Machine) 0/\t 4 = .rp i4 0 0/\t 6 = .rp i6 0 0/\t 8 = .rp i8 0 0/\t 13 = .fs 4 (List.map b0m m.Machine.Rules)/\t 14=I (List.length m.Machine.Rules:Int)/\t 15=I x_15/\t 37=B c13/\h.ob i4=some (3,[[I p.State,I p.Values.1,I p.Values.2]])/\i4<h.nx/\h.ob i6=some (3,[[I 0,I 0,I 0]])/\i6<h.nx/\h.ob i8=some (4,[[I x9.From,I x9.To,.fs 1 (List.map b0t x9.When),.fs 2 (List.map b2o x9.Sets)]])/\i8<h.nx/\¬i4=i6/\¬i4=i8/\¬i6=i8) (fun K hK=>?_) ?_
   ·simp only [go_sem,s2,s3,s4,Q9,Q3,Q5,Q4,b1z Q4];refine b0k (fun hg14=>?_) (fun hg14=>?_)
    ·simp only [go_sem,s2,s3,s4,Q9,Q3,Q5,Q4,b1z Q4,hg14];refine b0k (fun hg15=>?_) (fun hg15=>?_)
     ·simp only [hg14,hg15,Bool.not_true,Bool.not_false,eq_self,if_true,if_false,Bool.true_or,Bool.or_true,Bool.false_or,Bool.or_false,Bool.true_and,Bool.and_true,Bool.false_and,Bool.and_false,fT9] at h_c13;obtain rfl:=sI9 h_c13;simp only [go_sem,s2,s3,s4,Q9,Q3,Q5,Q4,b1z Q4,hg14,hg15];exact hK _ _ ⟨h.nx,s2,s3,s4,s6,(by first|(simp only [go_sem,hg14,hg15,lA9,mA9]; done)|rfl),s13,s14,s15,(by first|(simp only [go_sem,hg14,hg15,lA9,mA9]; done)|rfl),(by simp only [go_sem,Q9,Q3,hg14,hg15,lA9,mA9]),(by simp only [go_sem,Q3]),(by simp only [go_sem,Qb,Q5,hg14,hg15,lA9,mA9]),(by simp only [go_sem,Q5]),(by simp only [go_sem,hg14,hg15,lA9,mA9]),ve9,Q4,vd9,vd9⟩
     ·simp only [hg14,hg15,Bool.not_true,Bool.not_false,eq_self,if_true,if_false,Bool.true_or,Bool.or_true,Bool.false_or,Bool.or_false,Bool.true_and,Bool.and_true,Bool.false_and,Bool.and_false,fT9] at h_c13;obtain ⟨y12,h_y12,h_c13⟩:=b0g h_c13;obtain rfl:=sI9 h_c13;simp only [go_sem,s2,s3,s4,Q9,Q3,Q5,Q4,b1z Q4,hg14,hg15];refine b01 (b52 m x9.When (Place.mk p.State (p.Values.1,p.Values.2)) input _ h_y12) ?_;simp only [go_sem,s2,s3,s4,Q9,Q3,Q5,Q4,b1z Q4,hg14,hg15];exact hK _ _ ⟨h.nx,s2,s3,s4,s6,(by first|(simp only [go_sem,hg14,hg15,lA9,mA9]; done)|rfl),s13,s14,s15,(by first|(simp only [go_sem,hg14,hg15,lA9,mA9]; done)|rfl),(by simp only [go_sem,Q9,Q3,hg14,hg15,lA9,mA9]),(by simp only [go_sem,Q3]),(by simp only [go_sem,Qb,Q5,hg14,hg15,lA9,mA9]),(by simp only [go_sem,Q5]),(by simp only [go_sem,hg14,hg15,lA9,mA9]),ve9,Q4,vd9,vd9⟩
    ·simp only [hg14,Bool.not_true,Bool.not_false,eq_self,if_true,if_false,Bool.true_or,Bool.or_true,Bool.false_or,Bool.or_false,Bool.true_and,Bool.and_true,Bool.false_and,Bool.and_false,fT9] at h_c13;obtain ⟨y12,h_y12,h_c13⟩:=b0g h_c13;obtain rfl:=sI9 h_c13;simp only [go_sem,s2,s3,s4,Q9,Q3,Q5,Q4,b1z Q4,hg14];refine b01 (b52 m x9.When (Place.mk p.State (p.Values.1,p.Values.2)) input _ h_y12) ?_;simp only [go_sem,s2,s3,s4,Q9,Q3,Q5,Q4,b1z Q4,hg14];exact hK _ _ ⟨h.nx,s2,s3,s4,s6,(by first|(simp only [go_sem,hg14,lA9,mA9]; done)|rfl),s13,s14,s15,(by first|(simp only [go_sem,hg14,lA9,mA9]; done)|rfl),(by simp only [go_sem,Q9,Q3,hg14,lA9,mA9]),(by simp only [go_sem,Q3]),(by simp only [go_sem,Qb,Q5,hg14,lA9,mA9]),(by simp only [go_sem,Q5]),(by simp only [go_sem,hg14,lA9,mA9]),ve9,Q4,vd9,vd9⟩
   ·try clear s2 s3 s4 s6 s13 s14 s15 Q9 Q3 Qb Q5 Q4
    rintro t h ⟨i8,s2,s3,s4,s6,s8,s13,s14,s15,s37,Q9,Q3,Qb,Q5,Qi,Qc,Q4,Qd,Qg⟩;refine b0i fun K16 hK16=>?_;simp only [go_sem,s37];refine b0k (fun hc17=>?_) (fun hc17=>?_)
    ·rw [b0r hc17] at hm1;simp only [b09,b1b,b1a,c0s,b02,b0f,Nat.reduceEqDiff,nF9];exact J7  _ _ s2 s3 s4 s6 s13 s14 s15 Q9 Q3 Qb Q5 Q4 hm1
    ·rw [b0q hc17] at hm1;simp only [b0s,b02,b0f];refine hK16 _ _ ?_;refine b0v ?_;apply b0b;intro K hK;simp only [go_sem,s8,Qi,Qc,Q3,Q5,Qd,b1z Qd,Qg,b1z Qg];apply hK;refine b0i fun K18 hK18=>?_
     have J19:∀ (p_4_0 p_4_1 p_4_2:Int) (t:Slots) (h:Heap),t 4 = .rp i4 0 0->t 6 = .rp i6 0 0->t 8 = .rp i8 0 0->h.ob i4=some (3,[[I p_4_0,I p_4_1,I p_4_2]])->i4<h.nx->h.ob i6=some (3,[[I 0,I 0,I 0]])->i6<h.nx->h.ob i8=some (4,[[I x9.From,I x9.To,.fs 1 (List.map b0t x9.When),.fs 2 (List.map b2o x9.Sets)]])->i8<h.nx->¬i4=i6->¬i4=i8->¬i6=i8->c6g x9 p_4_0 p_4_1 p_4_2=some o->K18 t h:=by
      try clear s2 s3 s4 s6 s8 s13 s14 s15 s37 Q9 Q3 Qb Q5 Qi Qc Q4 Qd Qg
      intro p_4_0 p_4_1 p_4_2 t h s4 s6 s8 Q9 Q3 Qb Q5 Qi Qc Q4 Qd Qg hm1;refine hK18 _ _ ?_;unfold c6g at hm1;apply b0b;intro K hK;simp only [go_sem,s4,s8,Q9,Q3,Qi,Qc,Q5,Q4,b1z Q4,Qd,b1z Qd,Qg,b1z Qg];apply hK;simp only [b09,b1b,b1a,c0s,b02,b0f,Nat.reduceEqDiff,nF9];obtain rfl:=sI9 hm1;obtain rfl:=hb3 _ rfl
      try dsimp only at hm0
      exact J2 x9.To p_4_1 p_4_2 i4 i6 _ _ s4 s6 (by simp only [go_sem,Q9,Q3,lA9,mA9]) (by simp only [go_sem,Q3]) (by simp only [go_sem,Q3,Qb,Q5,Q4,b1z Q4,lA9,mA9]) (by simp only [go_sem,Q5]) Q4 hm0
     simp only [b0u];obtain ⟨b20,hl20,hm1⟩:=b0g hm1;refine b1j hl20 (fun|(p_4_0,p_4_1,p_4_2,x_41),t,h=>t 3 = .fp (vM m.Machine) 0/\t 4 = .rp i4 0 0/\t 6 = .rp i6 0 0/\t 8 = .rp i8 0 0/\t 39 = .fs 2 (List.map b2o x9.Sets)/\t 40=I (List.length x9.Sets:Int)/\t 41=I x_41/\h.ob i4=some (3,[[I p_4_0,I p_4_1,I p_4_2]])/\i4<h.nx/\h.ob i6=some (3,[[I 0,I 0,I 0]])/\i6<h.nx/\h.ob i8=some (4,[[I x9.From,I x9.To,.fs 1 (List.map b0t x9.When),.fs 2 (List.map b2o x9.Sets)]])/\i8<h.nx/\¬i4=i6/\¬i4=i8/\¬i6=i8) ?_ ?_
     ·exact ⟨s3,s4,s6,s8,va9,va9,va9,Q9,Q3,Qb,Q5,Qi,Qc,Q4,Qd,Qg⟩
     ·try clear s2 s3 s4 s6 s8 s13 s14 s15 s37 Q9 Q3 Qb Q5 Qi Qc Q4 Qd Qg
      rintro ⟨p_4_0,p_4_1,p_4_2,x_41⟩ o t h ⟨s3,s4,s6,s8,s39,s40,s41,Q9,Q3,Qb,Q5,Qi,Qc,Q4,Qd,Qg⟩ hm2 hb20;simp only [c11] at hm2;rw [g36];apply b0b;intro K hK;simp only [go_sem,s40,s41,Q3,Q5,Qc];apply hK;refine b0i fun K21 hK21=>?_;simp only [go_sem];refine b0k (fun hc22=>?_) (fun hc22=>?_)
      ·rw [b0r hc22] at hm2;simp only [b0s,b02,b0f];refine hK21 _ _ ?_;refine b0i fun K23 hK23=>?_;simp only [b0u];obtain ⟨x25,h_x25,hm2⟩:=b0g hm2;have h_x250:=b05 h_x25;have h_x251:=b06 h_x25;apply b0b;intro K hK;simp only [go_sem,s39,s41,Q3,Q5,Qc,b08 h_x25,b3n h_x25,h_x250,h_x251];apply hK;obtain ⟨y27,h_y27,hm2⟩:=b0g hm2;refine b9y (fun t h=>t 3 = .fp (vM m.Machine) 0/\t 4 = .rp i4 0 0/\t 6 = .rp i6 0 0/\t 8 = .rp i8 0 0/\t 39 = .fs 2 (List.map b2o x9.Sets)/\t 40=I (List.length x9.Sets:Int)/\t 41=I x_41/\h.ob i4=some (3,[[I y27.State,I y27.Values.1,I y27.Values.2]])/\i4<h.nx/\h.ob i6=some (3,[[I 0,I 0,I 0]])/\i6<h.nx/\h.ob i8=some (4,[[I x9.From,I x9.To,.fs 1 (List.map b0t x9.When),.fs 2 (List.map b2o x9.Sets)]])/\i8<h.nx/\¬i4=i6/\¬i4=i8/\¬i6=i8) (fun K hK=>?_) ?_
       ·simp only [go_sem,s3,s4,Q9,Q3,Q5,Qc,Q4,b1z Q4,Qd,b1z Qd];refine d9m (d22 m x25 (Place.mk p_4_0 (p_4_1,p_4_2)) i4 _ (by simp only [go_sem,Q9,Q3,Qb,Q5,Qi,Qc,Q4,b1z Q4,Qd,b1z Qd,Qg,b1z Qg,lA9,mA9]) (by first|omega|simp only [go_sem,Q3,Q5,Qc]) _ h_y27) ?_;rintro _ hq_y27 ⟨rfl,ob_y27,fr_y27,fx_y27⟩;have lw_y270:i4<hq_y27.nx:=Nat.lt_of_lt_of_le (by first|omega|simp only [go_sem,Q3,Q5,Qc]) fx_y27;have lw_y271:i6<hq_y27.nx:=Nat.lt_of_lt_of_le (by first|omega|simp only [go_sem,Q3,Q5,Qc]) fx_y27;have lw_y272:i8<hq_y27.nx:=Nat.lt_of_lt_of_le (by first|omega|simp only [go_sem,Q3,Q5,Qc]) fx_y27;have lw_y273:h.nx<hq_y27.nx:=Nat.lt_of_lt_of_le (by first|omega|simp only [go_sem,Q3,Q5,Qc]) fx_y27;simp only [go_sem,s3,s4,Q9,Q3,Q5,Qc,Q4,b1z Q4,Qd,b1z Qd];exact hK _ _ ⟨s3,s4,s6,s8,s39,s40,s41,(by simp only [go_sem,Q9,Q3,fr_y27,lw_y270,lw_y271,lw_y272,lw_y273,ob_y27,lA9,mA9]),(by first|omega|simp only [go_sem,Q3]),(by simp only [go_sem,Q3,Qb,Q5,Q4,b1z Q4,fr_y27,lw_y270,lw_y271,lw_y272,lw_y273,ob_y27,lA9,mA9]),(by first|omega|simp only [go_sem,Q5]),(by simp only [go_sem,Q3,Qi,Qc,Qd,b1z Qd,fr_y27,lw_y270,lw_y271,lw_y272,lw_y273,ob_y27,lA9,mA9]),(by first|omega|simp only [go_sem,Qc]),Q4,Qd,Qg⟩
       ·try clear s3 s4 s6 s8 s39 s40 s41 Q9 Q3 Qb Q5 Qi Qc Q4 Qd Qg
        rintro t h ⟨s3,s4,s6,s8,s39,s40,s41,Q9,Q3,Qb,Q5,Qi,Qc,Q4,Qd,Qg⟩;simp only [b02,b0f];refine hK23 _ _ ?_;apply b03;intro K hK;simp only [go_sem,s41,Q3,Q5,Qc];apply hK;simp only [b02,b0f];obtain rfl:=sI9 hm2;refine ⟨_,rfl,?_⟩;exact ⟨s3,s4,s6,s8,s39,s40,(by first|(simp only [go_sem,s41,lA9,mA9]; done)|rfl),Q9,Q3,Qb,Q5,Qi,Qc,Q4,Qd,Qg⟩
      ·rw [b0q hc22] at hm2;simp only [b09,b1b,b1a,c0s,b02,b0f,Nat.reduceEqDiff,nF9];obtain rfl:=sI9 hm2;obtain rfl:=hb20 _ rfl
       try dsimp only at hm1
       exact J19 p_4_0 p_4_1 p_4_2 _ _ s4 s6 s8 Q9 Q3 Qb Q5 Qi Qc Q4 Qd Qg hm1
  ·rw [b0q hc5] at hm1;simp only [b09,b1b,b1a,c0s,b02,b0f,Nat.reduceEqDiff,nF9];obtain rfl:=sI9 hm1;obtain rfl:=hb3 _ rfl
   try dsimp only at hm0
   exact J2 p.State p.Values.1 p.Values.2 i4 i6 _ _ s4 s6 Q9 Q3 Qb Q5 Q4 hm0
theorem d21 (hf:Has O "(newel/situation.Plant).literal" x__situation_Plant__literal):c93 O:=by
 intro m x p input r hm0;unfold b77 at hm0;refine b1i hf rfl (b0a (fM _) (b0a (.agg _ (b0a (b0e _) (b0a (b0e _) (b0a (b0e _) (b0a (b0e _) b0j))))) (b0a (.agg _ (b0a (b0e _) (b0a (b0e _) (b0a (b0e _) b0j)))) (b0a (b0e _) b0j)))) (b0e _) ?_;refine b1c (fun t h=>t 0 = .agg (vM m.Machine)/\t 1 = .agg [I x.Kind,I x.Number,I x.Value,B x.Not]/\t 2 = .agg [I p.State,I p.Values.1,I p.Values.2]/\t 3=I input) ⟨rfl,rfl,rfl,rfl⟩ fun t h ⟨s0,s1,s2,s3⟩=>?_;simp only [x__situation_Plant__literal];apply b0b;intro K hK;simp only [go_sem,s0,s1,s2];apply hK;apply b0b;intro K hK;simp only [go_sem];apply hK;refine b0v ?_;apply b0b;intro K hK;simp only [go_sem];apply hK;refine b0i fun K1 hK1=>?_
 have J2:∀ (holds_9:Bool) (t:Slots) (h:Heap),t 5 = .fp [I x.Kind,I x.Number,I x.Value,B x.Not] 0->t 9=B holds_9->b6w x holds_9=some r->K1 t h:=by
  intro holds_9 t h s5 s9 hm0;refine hK1 _ _ ?_;unfold b6w at hm0;apply b0b;intro K hK;simp only [go_sem,s5,s9];apply hK;simp only [b0x,b1p,b2e,b0y];obtain rfl:=sI9 hm0;exact b04 vb9 (b0e _)
 simp only [b0u];apply b0b;intro K hK;simp only [go_sem];apply hK;simp only [go_sem];refine b0k (fun hc3=>?_) (fun hc3=>?_)
 ·rw [b0r hc3] at hm0;obtain ⟨q5,h_q5,hm0⟩:=b0g hm0;apply b03;intro K hK;simp only [go_sem,s3,c7d h_q5];apply hK;simp only [b02,b0f];exact J2 (decide ((b6y q5 1)=1)) _ _ va9 va9 hm0
 ·rw [b0q hc3] at hm0;apply b0b;intro K hK;simp only [go_sem];apply hK;simp only [go_sem];refine b0k (fun hc6=>?_) (fun hc6=>?_)
  ·rw [b0r hc6] at hm0;obtain ⟨x8,h_x8,hm0⟩:=b0g hm0;have ha_x8:∀ v:Int,List.take (1+Int.toNat (x.Number)) [I p.State,I p.Values.1,I p.Values.2]++[I v]++List.drop (1+Int.toNat (x.Number)) [I p.Values.1,I p.Values.2]=[I p.State,I (b1n (x.Number) 0 v p.Values.1),I (b1n (x.Number) 1 v p.Values.2)]:=fun v=>(c1e (cs:=[I p.State,I p.Values.1,I p.Values.2]) (off:=1) (v:=v) h_x8 rfl).trans (by rw [c1d h_x8]; rfl);have hb_x8:1+Int.toNat (x.Number)+1<=3:=Nat.le_trans (Nat.add_le_add_left (c0a h_x8) 1) (by simp);apply b03;intro K hK;simp only [go_sem,d94 (n:=2) (l:=[p.Values.1,p.Values.2]) h_x8 rfl,c7f (n:=2) (l:=[p.Values.1,p.Values.2]) h_x8 rfl,c0c (cs:=[I p.State,I p.Values.1,I p.Values.2]) (off:=1) h_x8 rfl,ha_x8,hb_x8];apply hK;simp only [b02,b0f];exact J2 (decide (x.Value<=x8)) _ _ va9 va9 hm0
  ·rw [b0q hc6] at hm0;apply b0b;intro K hK;simp only [go_sem];apply hK;simp only [go_sem];refine b0k (fun hc9=>?_) (fun hc9=>?_)
   ·rw [b0r hc9] at hm0;apply b03;intro K hK;simp only [go_sem];apply hK;simp only [b02,b0f];exact J2 (decide (p.State=x.Number)) _ _ va9 va9 hm0
   ·rw [b0q hc9] at hm0;apply b0b;intro K hK;simp only [go_sem];apply hK;simp only [go_sem];refine b0k (fun hc10=>?_) (fun hc10=>?_)
    ·rw [b0r hc10] at hm0;obtain ⟨x13,h_x13,hm0⟩:=b0g hm0;have h_x130:=b05 h_x13;have h_x131:=b06 h_x13;obtain ⟨q14,h_q14,hm0⟩:=b0g hm0;apply b03;intro K hK;simp only [go_sem,b08 h_x13,b3n h_x13,h_x130,h_x131,c7d h_q14];apply hK;simp only [b02,b0f];exact J2 (decide ((b6y q14 1)=1)) _ _ va9 va9 hm0
    ·rw [b0q hc10] at hm0;simp only [b0s,b02,b0f];exact J2 false _ _ va9 va9 hm0
theorem d22 (hf:Has O "(newel/situation.Plant).set" x__situation_Plant__set):c94 O:=by
 intro m s p i_2 h0 ob_p2 lt_p2 r hm0;unfold r1b at hm0;refine d8g hf rfl ?_;refine b1c (fun t h=>t 0 = .agg (vM m.Machine)/\t 1 = .agg [I s.Kind,I s.Counter]/\t 2 = .rp i_2 0 0/\h.ob i_2=some (3,[[I p.State,I p.Values.1,I p.Values.2]])/\i_2<h.nx/\(∀ j,j<h0.nx->¬j=i_2->h.ob j=h0.ob j)/\h0.nx<=h.nx) ⟨rfl,rfl,rfl,ob_p2,lt_p2,fun _ _ _=>rfl,Nat.le_refl _⟩ fun t h ⟨s0,s1,s2,ob_p2,lt_p2,fr,fx⟩=>?_;simp only [x__situation_Plant__set];apply b0b;intro K hK;simp only [go_sem,s0,s1,lt_p2];apply hK;obtain ⟨x2,h_x2,hm0⟩:=b0g hm0;have ha_x2:∀ v:Int,List.take (1+Int.toNat (s.Counter)) [I p.State,I p.Values.1,I p.Values.2]++[I v]++List.drop (1+Int.toNat (s.Counter)) [I p.Values.1,I p.Values.2]=[I p.State,I (b1n (s.Counter) 0 v p.Values.1),I (b1n (s.Counter) 1 v p.Values.2)]:=fun v=>(c1e (cs:=[I p.State,I p.Values.1,I p.Values.2]) (off:=1) (v:=v) h_x2 rfl).trans (by rw [c1d h_x2]; rfl);have hb_x2:1+Int.toNat (s.Counter)+1<=3:=Nat.le_trans (Nat.add_le_add_left (c0a h_x2) 1) (by simp);apply b0b;intro K hK;simp only [go_sem,s2,ob_p2,lt_p2,d94 (n:=2) (l:=[p.Values.1,p.Values.2]) h_x2 rfl,c7f (n:=2) (l:=[p.Values.1,p.Values.2]) h_x2 rfl,c0c (cs:=[I p.State,I p.Values.1,I p.Values.2]) (off:=1) h_x2 rfl,ha_x2,hb_x2];apply hK;apply b0b;intro K hK;simp only [go_sem,lt_p2];apply hK;simp only [b0u];apply b0b;intro K hK;simp only [go_sem,lt_p2];apply hK;simp only [go_sem];refine b0k (fun hc3=>?_) (fun hc3=>?_)
 ·rw [b0r hc3] at hm0;apply b03;intro K hK;simp only [go_sem,ob_p2,lt_p2,d94 (n:=2) (l:=[p.Values.1,p.Values.2]) h_x2 rfl,c7f (n:=2) (l:=[p.Values.1,p.Values.2]) h_x2 rfl,c0c (cs:=[I p.State,I p.Values.1,I p.Values.2]) (off:=1) h_x2 rfl,ha_x2,hb_x2];apply hK;simp only [b02,b0f];obtain rfl:=sI9 hm0;exact c4o (Post:=fun v h=>v = .tup []/\h.ob i_2=some (3,[[I ((Place.mk p.State (b1n s.Counter 0 0 p.Values.1,b1n s.Counter 1 0 p.Values.2)).State),I (((Place.mk p.State (b1n s.Counter 0 0 p.Values.1,b1n s.Counter 1 0 p.Values.2)).Values).1),I (((Place.mk p.State (b1n s.Counter 0 0 p.Values.1,b1n s.Counter 1 0 p.Values.2)).Values).2)]])/\(∀ j,j<h0.nx->¬j=i_2->h.ob j=h0.ob j)/\h0.nx<=h.nx) ⟨rfl,(by simp only [go_sem,ob_p2,lt_p2,lA9,mA9]),(by intro j hj hx0; first|exact fr j hj hx0|(refine Eq.trans ?_ (fr j hj hx0); first|rfl|simp only [go_sem,Nat.lt_of_lt_of_le hj fx,hx0,b1z hx0])),(by first|exact fx|omega|(simp only [go_sem,nxs] <;> omega))⟩
 ·rw [b0q hc3] at hm0;apply b0b;intro K hK;simp only [go_sem,lt_p2];apply hK;simp only [go_sem];refine b0k (fun hc4=>?_) (fun hc4=>?_)
  ·rw [b0r hc4] at hm0;obtain ⟨x6,h_x6,hm0⟩:=b0g hm0;have h_x60:=b05 h_x6;have h_x61:=b06 h_x6;apply b03;intro K hK;simp only [go_sem,ob_p2,lt_p2,b08 h_x6,b3n h_x6,h_x60,h_x61,d94 (n:=2) (l:=[p.Values.1,p.Values.2]) h_x2 rfl,c7f (n:=2) (l:=[p.Values.1,p.Values.2]) h_x2 rfl,c0c (cs:=[I p.State,I p.Values.1,I p.Values.2]) (off:=1) h_x2 rfl,ha_x2,hb_x2];apply hK;simp only [b02,b0f];obtain rfl:=sI9 hm0;exact c4o (Post:=fun v h=>v = .tup []/\h.ob i_2=some (3,[[I ((Place.mk p.State (b1n s.Counter 0 (mn (wr (x2+1)) x6.Max) p.Values.1,b1n s.Counter 1 (mn (wr (x2+1)) x6.Max) p.Values.2)).State),I (((Place.mk p.State (b1n s.Counter 0 (mn (wr (x2+1)) x6.Max) p.Values.1,b1n s.Counter 1 (mn (wr (x2+1)) x6.Max) p.Values.2)).Values).1),I (((Place.mk p.State (b1n s.Counter 0 (mn (wr (x2+1)) x6.Max) p.Values.1,b1n s.Counter 1 (mn (wr (x2+1)) x6.Max) p.Values.2)).Values).2)]])/\(∀ j,j<h0.nx->¬j=i_2->h.ob j=h0.ob j)/\h0.nx<=h.nx) ⟨rfl,(by simp only [go_sem,ob_p2,lt_p2,lA9,mA9]),(by intro j hj hx0; first|exact fr j hj hx0|(refine Eq.trans ?_ (fr j hj hx0); first|rfl|simp only [go_sem,Nat.lt_of_lt_of_le hj fx,hx0,b1z hx0])),(by first|exact fx|omega|(simp only [go_sem,nxs] <;> omega))⟩
  ·rw [b0q hc4] at hm0;apply b0b;intro K hK;simp only [go_sem,lt_p2];apply hK;simp only [go_sem];refine b0k (fun hc7=>?_) (fun hc7=>?_)
   ·rw [b0r hc7] at hm0;apply b03;intro K hK;simp only [go_sem,ob_p2,lt_p2,d94 (n:=2) (l:=[p.Values.1,p.Values.2]) h_x2 rfl,c7f (n:=2) (l:=[p.Values.1,p.Values.2]) h_x2 rfl,c0c (cs:=[I p.State,I p.Values.1,I p.Values.2]) (off:=1) h_x2 rfl,ha_x2,hb_x2];apply hK;simp only [b02,b0f];obtain rfl:=sI9 hm0;exact c4o (Post:=fun v h=>v = .tup []/\h.ob i_2=some (3,[[I ((Place.mk p.State (b1n s.Counter 0 (mx (wr (x2 - 1)) 0) p.Values.1,b1n s.Counter 1 (mx (wr (x2 - 1)) 0) p.Values.2)).State),I (((Place.mk p.State (b1n s.Counter 0 (mx (wr (x2 - 1)) 0) p.Values.1,b1n s.Counter 1 (mx (wr (x2 - 1)) 0) p.Values.2)).Values).1),I (((Place.mk p.State (b1n s.Counter 0 (mx (wr (x2 - 1)) 0) p.Values.1,b1n s.Counter 1 (mx (wr (x2 - 1)) 0) p.Values.2)).Values).2)]])/\(∀ j,j<h0.nx->¬j=i_2->h.ob j=h0.ob j)/\h0.nx<=h.nx) ⟨rfl,(by simp only [go_sem,ob_p2,lt_p2,lA9,mA9]),(by intro j hj hx0; first|exact fr j hj hx0|(refine Eq.trans ?_ (fr j hj hx0); first|rfl|simp only [go_sem,Nat.lt_of_lt_of_le hj fx,hx0,b1z hx0])),(by first|exact fx|omega|(simp only [go_sem,nxs] <;> omega))⟩
   ·rw [b0q hc7] at hm0;simp only [b0s,b02,b0f];obtain rfl:=sI9 hm0;exact c4o (Post:=fun v h=>v = .tup []/\h.ob i_2=some (3,[[I ((Place.mk p.State (p.Values.1,p.Values.2)).State),I (((Place.mk p.State (p.Values.1,p.Values.2)).Values).1),I (((Place.mk p.State (p.Values.1,p.Values.2)).Values).2)]])/\(∀ j,j<h0.nx->¬j=i_2->h.ob j=h0.ob j)/\h0.nx<=h.nx) ⟨rfl,ob_p2,fr,fx⟩
theorem d24 (hf:Has O "newel/control.Check" x_control_Check) (d3h:d0k O):c96 O:=by
 intro m r hm0;unfold c2f at hm0;refine b1i hf rfl (b0a (fM _) b0j) (b0e _) ?_;refine b1c (fun t h=>t 0 = .agg (vM m)) rfl fun t h s0=>?_;simp only [x_control_Check];apply b0b;intro K hK;simp only [go_sem,s0];apply hK;obtain ⟨y2,h_y2,hm0⟩:=b0g hm0;apply b0b;intro K hK;simp only [go_sem];refine b01 (d3h m _ h_y2) ?_;simp only [go_sem];apply hK;simp only [b0x,b1p,b2e,b0y];obtain rfl:=sI9 hm0;exact b04 vb9 (b0e _)
theorem c3e (hf:Has O "newel/control.check" x_control_check) (d24:c96 O) (c3p:c5t O):c5g O:=by
 intro m conds r hm0;unfold b9x at hm0;refine b1i hf rfl (b0a (fM _) (b0a (b0c fun a _=>b97 a) b0j)) (b0e _) ?_;refine b1c (fun t h=>t 0 = .agg (vM m)/\t 1 = .fs 1 (List.map b4v conds)) ⟨rfl,rfl⟩ fun t h ⟨s0,s1⟩=>?_;simp only [x_control_check];apply b0b;intro K hK;simp only [go_sem,s0];apply hK;refine b0v ?_;obtain ⟨y2,h_y2,hm0⟩:=b0g hm0;apply b0b;intro K hK;simp only [go_sem];refine b01 (d24 m _ h_y2) ?_;simp only [go_sem];apply hK;refine b0v ?_;apply b0b;intro K hK;simp only [go_sem];apply hK;refine b0i fun K3 hK3=>?_;simp only [go_sem];refine b0k (fun hc4=>?_) (fun hc4=>?_)
 ·rw [b0r hc4] at hm0;apply b0b;intro K hK;simp only [go_sem];apply hK;simp only [b0x,b1p,b2e,b0y];obtain rfl:=sI9 hm0;exact b04 vb9 (b0e _)
 ·rw [b0q hc4] at hm0;simp only [b0s,b02,b0f];refine hK3 _ _ ?_;refine b0v ?_;apply b0b;intro K hK;simp only [go_sem,s1];apply hK;refine b0i fun K5 hK5=>?_
  have J6:∀ (t:Slots) (h:Heap),d1j=some r->K5 t h:=by
   intro t h hm0;refine hK5 _ _ ?_;unfold d1j at hm0;apply b0b;intro K hK;simp only [go_sem];apply hK;simp only [b0x,b1p,b2e,b0y];obtain rfl:=sI9 hm0;exact b04 vb9 (b0e _)
  simp only [b0u];obtain ⟨b7,hl7,hm0⟩:=b0g hm0;refine b1j hl7 (fun|x_15,t,h=>t 2 = .fp (vM m) 0/\t 13 = .fs 1 (List.map b4v conds)/\t 14=I (List.length conds:Int)/\t 15=I x_15) ?_ ?_
  ·exact ⟨va9,va9,va9,va9⟩
  ·rintro x_15 o t h ⟨s2,s13,s14,s15⟩ hm1 hb7;simp only [c2i] at hm1;rw [g4b];apply b0b;intro K hK;simp only [go_sem,s14,s15];apply hK;refine b0i fun K8 hK8=>?_;simp only [go_sem];refine b0k (fun hc9=>?_) (fun hc9=>?_)
   ·rw [b0r hc9] at hm1;simp only [b0s,b02,b0f];refine hK8 _ _ ?_;refine b0i fun K10 hK10=>?_;simp only [b0u];obtain ⟨x12,h_x12,hm1⟩:=b0g hm1;have h_x120:=b05 h_x12;have h_x121:=b06 h_x12;apply b0b;intro K hK;simp only [go_sem,s13,s15,b08 h_x12,b3n h_x12,h_x120,h_x121];apply hK;obtain ⟨y14,h_y14,hm1⟩:=b0g hm1;apply b0b;intro K hK;simp only [go_sem,s2];refine b01 (c3p m x12 _ h_y14) ?_;simp only [go_sem,s2];apply hK;simp only [go_sem];refine b0k (fun hc15=>?_) (fun hc15=>?_)
    ·rw [b0r hc15] at hm1;apply b0b;intro K hK;simp only [go_sem];apply hK;simp only [b0x,b1p,b2e,b0y];obtain rfl:=sI9 hm1;obtain rfl:=hb7 _ rfl
     try dsimp only at hm0
     obtain rfl:=sI9 hm0;exact b04 vb9 (b0e _)
    ·rw [b0q hc15] at hm1;simp only [b0s,b02,b0f];refine hK10 _ _ ?_;apply b03;intro K hK;simp only [go_sem,s15];apply hK;simp only [b02,b0f];obtain rfl:=sI9 hm1;refine ⟨_,rfl,?_⟩;exact ⟨s2,s13,s14,(by first|(simp only [go_sem,s15,lA9,mA9]; done)|rfl)⟩
   ·rw [b0q hc9] at hm1;simp only [b09,b1b,b1a,c0s,b02,b0f,Nat.reduceEqDiff,nF9];obtain rfl:=sI9 hm1;obtain rfl:=hb7 _ rfl
    try dsimp only at hm0
    exact J6  _ _  hm0
theorem c3f (hf:Has O "newel/control.of" x_control_of):c5h O:=by
 intro m;generalize hm0:b3h m=r;unfold b3h at hm0;refine b1i hf rfl (b0a (fM _) b0j) (fM _) ?_;refine b1c (fun t h=>t 0 = .agg (vM m)) rfl fun t h s0=>?_;simp only [x_control_of];apply b0b;intro K hK;simp only [go_sem,s0];apply hK;apply b0b;intro K hK;simp only [go_sem];apply hK;simp only [b0x,b1p,b2e,b0y];obtain rfl:=hm0;exact L18 (id:=h.nx) (m:=5) (cs:=(vM m)) vb9 vb9 rfl (.refl _ (fM _))
theorem u3i (hf:Has O "newel/faults.Course" x_faults_Course) (u0q:u1i O) (u0r:s97 O):u2j O:=by
 intro a t_ r hm0;unfold s9i at hm0;refine b1i hf rfl (b0a (fA _) (b0a (.agg _ (b0a (b0e _) (b0a (b0e _) (b0a (b0e _) b0j)))) b0j)) (.tup _ (b0a (b0c fun a _=>b1t a) (b0a (b0e _) b0j))) ?_;refine b1c (fun t h=>t 0 = .agg (vA a)/\t 1 = .agg [I t_.Input,I t_.Value,I t_.From]) ⟨rfl,rfl⟩ fun t h ⟨s0,s1⟩=>?_;simp only [x_faults_Course];apply b0b;intro K hK;simp only [go_sem,s0,s1];apply hK;refine b0v ?_;obtain ⟨y2,h_y2,hm0⟩:=b0g hm0;apply b0b;intro K hK;simp only [go_sem];refine b01 (u0q a t_ _ h_y2) ?_;simp only [go_sem];apply hK;refine b0v ?_;apply b0b;intro K hK;simp only [go_sem];apply hK;refine b0i fun K3 hK3=>?_;simp only [go_sem];refine b0k (fun hc4=>?_) (fun hc4=>?_)
 ·rw [b0r hc4] at hm0;apply b0b;intro K hK;simp only [go_sem];apply hK;simp only [b0x,b1p,b2e,b0y];obtain rfl:=sI9 hm0;exact d66 (v:=.v (.slice none 0 0)) (u:=I y2) vb9 vb9 (.nil _) (.refl _ (b0e _))
 ·rw [b0q hc4] at hm0;simp only [b0s,b02,b0f];refine hK3 _ _ ?_;obtain ⟨y6,h_y6,hm0⟩:=b0g hm0;apply b0b;intro K hK;simp only [go_sem];refine r2x ?_ (b0a (fA _) (b0a (.agg _ (b0a (b0e _) (b0a (b0e _) (b0a (b0e _) b0j)))) (b0a (b0e _) b0j))) (u0r a t_ _ h_y6) ?_
  ·exact .cons (.refl _ (fA _)) (.cons (.refl _ (.agg _ (b0a (b0e _) (b0a (b0e _) (b0a (b0e _) b0j))))) (.cons (.nil _) (.nil)))
  simp only [go_sem];apply hK;refine b0v ?_;apply b0b;intro K hK;simp only [go_sem];apply hK;refine b0i fun K7 hK7=>?_;simp only [go_sem];refine b0k (fun hc8=>?_) (fun hc8=>?_)
  ·rw [b0r hc8] at hm0;apply b0b;intro K hK;simp only [go_sem];apply hK;simp only [b0x,b1p,b2e,b0y];obtain rfl:=sI9 hm0;exact d66 (v:=.v (.slice none 0 0)) (u:=I 3) vb9 vb9 (.nil _) (.refl _ (b0e _))
  ·rw [b0q hc8] at hm0;simp only [b0s,b02,b0f];refine hK7 _ _ ?_;apply b0b;intro K hK;simp only [go_sem];apply hK;simp only [b0x,b1p,b2e,b0y];obtain rfl:=sI9 hm0;exact d1m vb9 vb9 (b0c fun a _=>b1t a) (b0e _)
theorem u3j (hf:Has O "newel/faults.Possible" x_faults_Possible) (u0q:u1i O) (u0r:s97 O):u2k O:=by
 intro a t_ r hm0;unfold u0g at hm0;refine b1i hf rfl (b0a (fA _) (b0a (.agg _ (b0a (b0e _) (b0a (b0e _) (b0a (b0e _) b0j)))) b0j)) (.tup _ (b0a (b0e _) (b0a (b0e _) b0j))) ?_;refine b1c (fun t h=>t 0 = .agg (vA a)/\t 1 = .agg [I t_.Input,I t_.Value,I t_.From]) ⟨rfl,rfl⟩ fun t h ⟨s0,s1⟩=>?_;simp only [x_faults_Possible];apply b0b;intro K hK;simp only [go_sem,s0,s1];apply hK;refine b0v ?_;obtain ⟨y2,h_y2,hm0⟩:=b0g hm0;apply b0b;intro K hK;simp only [go_sem];refine b01 (u0q a t_ _ h_y2) ?_;simp only [go_sem];apply hK;refine b0v ?_;apply b0b;intro K hK;simp only [go_sem];apply hK;refine b0i fun K3 hK3=>?_;simp only [go_sem];refine b0k (fun hc4=>?_) (fun hc4=>?_)
 ·rw [b0r hc4] at hm0;apply b0b;intro K hK;simp only [go_sem];apply hK;simp only [b0x,b1p,b2e,b0y];obtain rfl:=sI9 hm0;exact d1m vb9 vb9 (b0e _) (b0e _)
 ·rw [b0q hc4] at hm0;simp only [b0s,b02,b0f];refine hK3 _ _ ?_;obtain ⟨y6,h_y6,hm0⟩:=b0g hm0;apply b0b;intro K hK;simp only [go_sem];refine r2x ?_ (b0a (fA _) (b0a (.agg _ (b0a (b0e _) (b0a (b0e _) (b0a (b0e _) b0j)))) (b0a (b0e _) b0j))) (u0r a t_ _ h_y6) ?_
  ·exact .cons (.refl _ (fA _)) (.cons (.refl _ (.agg _ (b0a (b0e _) (b0a (b0e _) (b0a (b0e _) b0j))))) (.cons (.nil _) (.nil)))
  simp only [go_sem];apply hK;apply b0b;intro K hK;simp only [go_sem];apply hK;simp only [b0x,b1p,b2e,b0y];obtain rfl:=sI9 hm0;exact d1m vb9 vb9 (b0e _) (b0e _)
theorem u3k (hf:Has O "newel/faults.accident" x_faults_accident) (d3h:d0k O) (c3p:c5t O) (s84:u1j O):u2l O:=by
 intro a r hm0;unfold u0h at hm0;refine b1i hf rfl (b0a (fA _) b0j) (b0e _) ?_;refine b1c (fun t h=>t 0 = .agg (vA a)) rfl fun t h s0=>?_;simp only [x_faults_accident];apply b0b;intro K hK;simp only [go_sem,s0];apply hK;refine b0v ?_;obtain ⟨y2,h_y2,hm0⟩:=b0g hm0;apply b0b;intro K hK;simp only [go_sem];refine b01 (d3h a.Machine _ h_y2) ?_;simp only [go_sem];apply hK;refine b0v ?_;apply b0b;intro K hK;simp only [go_sem];apply hK;refine b0i fun K3 hK3=>?_;simp only [go_sem];refine b0k (fun hc4=>?_) (fun hc4=>?_)
 ·rw [b0r hc4] at hm0;apply b0b;intro K hK;simp only [go_sem];apply hK;simp only [b0x,b1p,b2e,b0y];obtain rfl:=sI9 hm0;exact b04 vb9 (b0e _)
 ·rw [b0q hc4] at hm0;simp only [b0s,b02,b0f];refine hK3 _ _ ?_;refine b0v ?_;obtain ⟨y6,h_y6,hm0⟩:=b0g hm0;apply b0b;intro K hK;simp only [go_sem];refine b01 (c3p a.Machine a.Assume _ h_y6) ?_;simp only [go_sem];apply hK;refine b0i fun K7 hK7=>?_;simp only [go_sem];refine b0k (fun hc8=>?_) (fun hc8=>?_)
  ·rw [b0r hc8] at hm0;apply b0b;intro K hK;simp only [go_sem];apply hK;simp only [b0x,b1p,b2e,b0y];obtain rfl:=sI9 hm0;exact b04 vb9 (b0e _)
  ·rw [b0q hc8] at hm0;simp only [b0s,b02,b0f];refine hK7 _ _ ?_;refine b0v ?_;apply b0b;intro K hK;simp only [go_sem];apply hK;refine b0i fun K9 hK9=>?_
   have J10:∀ (t:Slots) (h:Heap),t 1 = .fp (vA a) 0->u1w a=some r->K9 t h:=by
    intro t h s1 hm0;refine hK9 _ _ ?_;unfold u1w at hm0;refine b0v ?_;apply b0b;intro K hK;simp only [go_sem,s1];refine b01 (s84 a.Ticks 0 40) ?_;simp only [go_sem,s1];apply hK;refine b0i fun K11 hK11=>?_;simp only [go_sem];refine b0k (fun hc12=>?_) (fun hc12=>?_)
    ·rw [b0r hc12] at hm0;apply b0b;intro K hK;simp only [go_sem];apply hK;simp only [b0x,b1p,b2e,b0y];obtain rfl:=sI9 hm0;exact b04 vb9 (b0e _)
    ·rw [b0q hc12] at hm0;simp only [b0s,b02,b0f];refine hK11 _ _ ?_;refine b0v ?_;apply b0b;intro K hK;simp only [go_sem,s1];apply hK;refine b0i fun K13 hK13=>?_;simp only [go_sem];refine b0k (fun hc14=>?_) (fun hc14=>?_)
     ·rw [b0r hc14] at hm0;apply b0b;intro K hK;simp only [go_sem];apply hK;simp only [b0x,b1p,b2e,b0y];obtain rfl:=sI9 hm0;exact b04 vb9 (b0e _)
     ·rw [b0q hc14] at hm0;simp only [b0s,b02,b0f];refine hK13 _ _ ?_;refine b0v ?_;apply b0b;intro K hK;simp only [go_sem,s1];apply hK;refine b0i fun K15 hK15=>?_
      have J16:∀ (t:Slots) (h:Heap),u28=some r->K15 t h:=by
       intro t h hm0;refine hK15 _ _ ?_;unfold u28 at hm0;apply b0b;intro K hK;simp only [go_sem];apply hK;simp only [b0x,b1p,b2e,b0y];obtain rfl:=sI9 hm0;exact b04 vb9 (b0e _)
      simp only [b0u];obtain ⟨b17,hl17,hm0⟩:=b0g hm0;refine b1j hl17 (fun|x_45,t,h=>t 1 = .fp (vA a) 0/\t 43 = .fs 4 (List.map c26 a.Records)/\t 44=I (List.length a.Records:Int)/\t 45=I x_45) ?_ ?_
      ·exact ⟨s1,va9,va9,va9⟩
      ·rintro x_45 o t h ⟨s1,s43,s44,s45⟩ hm1 hb17;simp only [u0j] at hm1;rw [u5r];apply b0b;intro K hK;simp only [go_sem,s44,s45];apply hK;refine b0i fun K18 hK18=>?_;simp only [go_sem];refine b0k (fun hc19=>?_) (fun hc19=>?_)
       ·rw [b0r hc19] at hm1;simp only [b0s,b02,b0f];refine hK18 _ _ ?_;refine b0i fun K20 hK20=>?_;simp only [b0u];obtain ⟨x22,h_x22,hm1⟩:=b0g hm1;have h_x220:=b05 h_x22;have h_x221:=b06 h_x22;apply b0b;intro K hK;simp only [go_sem,s43,s45,b08 h_x22,b3n h_x22,h_x220,h_x221];apply hK;refine b2p (fun t h=>t 1 = .fp (vA a) 0/\t 43 = .fs 4 (List.map c26 a.Records)/\t 44=I (List.length a.Records:Int)/\t 45=I x_45/\t 65=B (((decide (x22.From<0)) || (decide (x22.To<x22.From))) || (decide (a.Ticks<=x22.To)))) (fun K hK=>?_) ?_
        ·simp only [go_sem,s1];refine b0k (fun hg23=>?_) (fun hg23=>?_)
         ·simp only [go_sem,s1,hg23];exact hK _ _ ⟨s1,s43,s44,s45,(by first|(simp only [go_sem,hg23,lA9,mA9]; done)|rfl)⟩
         ·simp only [go_sem,s1,hg23];refine b0k (fun hg24=>?_) (fun hg24=>?_)
          ·simp only [go_sem,s1,hg23,hg24];exact hK _ _ ⟨s1,s43,s44,s45,(by first|(simp only [go_sem,hg23,hg24,lA9,mA9]; done)|rfl)⟩
          ·simp only [go_sem,s1,hg23,hg24];exact hK _ _ ⟨s1,s43,s44,s45,(by first|(simp only [go_sem,hg23,hg24,lA9,mA9]; done)|rfl)⟩
        ·rintro t h ⟨s1,s43,s44,s45,s65⟩;simp only [go_sem,s65];refine b0k (fun hc25=>?_) (fun hc25=>?_)
         ·rw [b0r hc25] at hm1;apply b0b;intro K hK;simp only [go_sem];apply hK;simp only [b0x,b1p,b2e,b0y];obtain rfl:=sI9 hm1;obtain rfl:=hb17 _ rfl
          try dsimp only at hm0
          obtain rfl:=sI9 hm0;exact b04 vb9 (b0e _)
         ·rw [b0q hc25] at hm1;simp only [b0s,b02,b0f];refine hK20 _ _ ?_;apply b03;intro K hK;simp only [go_sem,s45];apply hK;simp only [b02,b0f];obtain rfl:=sI9 hm1;refine ⟨_,rfl,?_⟩;exact ⟨s1,s43,s44,(by first|(simp only [go_sem,s45,lA9,mA9]; done)|rfl)⟩
       ·rw [b0q hc19] at hm1;simp only [b09,b1b,b1a,c0s,b02,b0f,Nat.reduceEqDiff,nF9];obtain rfl:=sI9 hm1;obtain rfl:=hb17 _ rfl
        try dsimp only at hm0
        exact J16  _ _  hm0
   simp only [b0u];obtain ⟨b27,hl27,hm0⟩:=b0g hm0;refine b1j hl27 (fun|x_23,t,h=>t 1 = .fp (vA a) 0/\t 21 = .fs 4 (List.map c26 a.Records)/\t 22=I (List.length a.Records:Int)/\t 23=I x_23) ?_ ?_
   ·exact ⟨va9,va9,va9,va9⟩
   ·rintro x_23 o t h ⟨s1,s21,s22,s23⟩ hm1 hb27;simp only [u0i] at hm1;rw [u5q];apply b0b;intro K hK;simp only [go_sem,s22,s23];apply hK;refine b0i fun K28 hK28=>?_;simp only [go_sem];refine b0k (fun hc29=>?_) (fun hc29=>?_)
    ·rw [b0r hc29] at hm1;simp only [b0s,b02,b0f];refine hK28 _ _ ?_;refine b0i fun K30 hK30=>?_;simp only [b0u];obtain ⟨x32,h_x32,hm1⟩:=b0g hm1;have h_x320:=b05 h_x32;have h_x321:=b06 h_x32;apply b0b;intro K hK;simp only [go_sem,s21,s23,b08 h_x32,b3n h_x32,h_x320,h_x321];apply hK;obtain ⟨y34,h_y34,hm1⟩:=b0g hm1;apply b0b;intro K hK;simp only [go_sem,s1];refine b01 (c3p a.Machine x32.Cond _ h_y34) ?_;simp only [go_sem,s1];apply hK;simp only [go_sem];refine b0k (fun hc35=>?_) (fun hc35=>?_)
     ·rw [b0r hc35] at hm1;apply b0b;intro K hK;simp only [go_sem];apply hK;simp only [b0x,b1p,b2e,b0y];obtain rfl:=sI9 hm1;obtain rfl:=hb27 _ rfl
      try dsimp only at hm0
      obtain rfl:=sI9 hm0;exact b04 vb9 (b0e _)
     ·rw [b0q hc35] at hm1;simp only [b0s,b02,b0f];refine hK30 _ _ ?_;apply b03;intro K hK;simp only [go_sem,s23];apply hK;simp only [b02,b0f];obtain rfl:=sI9 hm1;refine ⟨_,rfl,?_⟩;exact ⟨s1,s21,s22,(by first|(simp only [go_sem,s23,lA9,mA9]; done)|rfl)⟩
    ·rw [b0q hc29] at hm1;simp only [b09,b1b,b1a,c0s,b02,b0f,Nat.reduceEqDiff,nF9];obtain rfl:=sI9 hm1;obtain rfl:=hb27 _ rfl
     try dsimp only at hm0
     exact J10  _ _ s1 hm0
theorem u0q (hf:Has O "newel/faults.both" x_faults_both) (u3k:u2l O) (u3n:u2m O):u1i O:=by
 intro a t_ r hm0;unfold s9j at hm0;refine b1i hf rfl (b0a (fA _) (b0a (.agg _ (b0a (b0e _) (b0a (b0e _) (b0a (b0e _) b0j)))) b0j)) (b0e _) ?_;refine b1c (fun t h=>t 0 = .agg (vA a)/\t 1 = .agg [I t_.Input,I t_.Value,I t_.From]) ⟨rfl,rfl⟩ fun t h ⟨s0,s1⟩=>?_;simp only [x_faults_both];apply b0b;intro K hK;simp only [go_sem,s0,s1];apply hK;refine b0v ?_;obtain ⟨y2,h_y2,hm0⟩:=b0g hm0;apply b0b;intro K hK;simp only [go_sem];refine b01 (u3k a _ h_y2) ?_;simp only [go_sem];apply hK;refine b0v ?_;apply b0b;intro K hK;simp only [go_sem];apply hK;refine b0i fun K3 hK3=>?_;simp only [go_sem];refine b0k (fun hc4=>?_) (fun hc4=>?_)
 ·rw [b0r hc4] at hm0;apply b0b;intro K hK;simp only [go_sem];apply hK;simp only [b0x,b1p,b2e,b0y];obtain rfl:=sI9 hm0;exact b04 vb9 (b0e _)
 ·rw [b0q hc4] at hm0;simp only [b0s,b02,b0f];refine hK3 _ _ ?_;refine b0v ?_;apply b0b;intro K hK;simp only [go_sem];refine b01 (u3n a t_) ?_;simp only [go_sem];apply hK;refine b0i fun K5 hK5=>?_;simp only [go_sem];refine b0k (fun hc6=>?_) (fun hc6=>?_)
  ·rw [b0r hc6] at hm0;apply b0b;intro K hK;simp only [go_sem];apply hK;simp only [b0x,b1p,b2e,b0y];obtain rfl:=sI9 hm0;exact b04 vb9 (b0e _)
  ·rw [b0q hc6] at hm0;simp only [b0s,b02,b0f];refine hK5 _ _ ?_;apply b0b;intro K hK;simp only [go_sem];apply hK;simp only [b0x,b1p,b2e,b0y];obtain rfl:=sI9 hm0;exact b04 vb9 (b0e _)
theorem u3n (hf:Has O "newel/faults.theory" x_faults_theory) (s84:u1j O):u2m O:=by
 intro a t_;generalize hm0:u0l a t_=r;unfold u0l at hm0;refine b1i hf rfl (b0a (fA _) (b0a (.agg _ (b0a (b0e _) (b0a (b0e _) (b0a (b0e _) b0j)))) b0j)) (b0e _) ?_;refine b1c (fun t h=>t 0 = .agg (vA a)/\t 1 = .agg [I t_.Input,I t_.Value,I t_.From]) ⟨rfl,rfl⟩ fun t h ⟨s0,s1⟩=>?_;simp only [x_faults_theory];apply b0b;intro K hK;simp only [go_sem,s0,s1];apply hK;refine b0v ?_;apply b0b;intro K hK;simp only [go_sem];apply hK;refine b0i fun K1 hK1=>?_;simp only [go_sem];refine b0k (fun hc2=>?_) (fun hc2=>?_)
 ·rw [b0r hc2] at hm0;refine b2p (fun t h=>t 4=B ((decide (t_.Value=0)) && (decide (t_.From=0)))) (fun K hK=>?_) ?_
  ·simp only [go_sem];refine b0k (fun hg3=>?_) (fun hg3=>?_)
   ·simp only [go_sem,hg3];exact hK _ _ (by first|(simp only [go_sem,hg3,lA9,mA9]; done)|rfl)
   ·simp only [go_sem,hg3];exact hK _ _ (by first|(simp only [go_sem,hg3,lA9,mA9]; done)|rfl)
  ·rintro t h s4;simp only [b0x,b1p,b2e,b0y];obtain rfl:=hm0;exact b04 (by simp only [go_sem,s4,lA9,mA9]) (b0e _)
 ·rw [b0q hc2] at hm0;simp only [b0s,b02,b0f];refine hK1 _ _ ?_;refine b2p (fun t h=>t 4=B (((K5s t_.Input 0 (wr ((List.length a.Machine.Inputs:Int) - 1))) && (K5s t_.Value 0 1)) && (K5s t_.From 0 (wr (a.Ticks - 1))))) (fun K hK=>?_) ?_
  ·simp only [go_sem];refine b01 (s84 t_.Input 0 (wr ((List.length a.Machine.Inputs:Int) - 1))) ?_;simp only [go_sem];refine b0k (fun hg4=>?_) (fun hg4=>?_)
   ·simp only [go_sem,hg4];refine b01 (s84 t_.Value 0 1) ?_;simp only [go_sem,hg4];refine b0k (fun hg5=>?_) (fun hg5=>?_)
    ·simp only [go_sem,hg4,hg5];refine b01 (s84 t_.From 0 (wr (a.Ticks - 1))) ?_;simp only [go_sem,hg4,hg5];exact hK _ _ (by first|(simp only [go_sem,hg4,hg5,lA9,mA9]; done)|rfl)
    ·simp only [go_sem,hg4,hg5];exact hK _ _ (by first|(simp only [go_sem,hg4,hg5,lA9,mA9]; done)|rfl)
   ·simp only [go_sem,hg4];exact hK _ _ (by first|(simp only [go_sem,hg4,lA9,mA9]; done)|rfl)
  ·rintro t h s4;simp only [b0x,b1p,b2e,b0y];obtain rfl:=hm0;exact b04 (by simp only [go_sem,s4,lA9,mA9]) (b0e _)
theorem s84 (hf:Has O "newel/faults.within" x_faults_within):u1j O:=by
 intro n low high;generalize hm0:K5s n low high=r;unfold K5s at hm0;refine b1i hf rfl (b0a (b0e _) (b0a (b0e _) (b0a (b0e _) b0j))) (b0e _) ?_;refine b1c (fun t h=>t 0=I n/\t 1=I low/\t 2=I high) ⟨rfl,rfl,rfl⟩ fun t h ⟨s0,s1,s2⟩=>?_;simp only [x_faults_within];apply b0b;intro K hK;simp only [go_sem];apply hK;refine b2p (fun t h=>t 6=B ((decide (low<=n)) && (decide (n<=high)))) (fun K hK=>?_) ?_
 ·simp only [go_sem,s0,s1,s2];refine b0k (fun hg1=>?_) (fun hg1=>?_)
  ·simp only [go_sem,s0,s1,s2,hg1];exact hK _ _ (by first|(simp only [go_sem,hg1,lA9,mA9]; done)|rfl)
  ·simp only [go_sem,s0,s1,s2,hg1];exact hK _ _ (by first|(simp only [go_sem,hg1,lA9,mA9]; done)|rfl)
 ·rintro t h s6;simp only [b0x,b1p,b2e,b0y];obtain rfl:=hm0;exact b04 (by simp only [go_sem,s6,lA9,mA9]) (b0e _)
theorem u3o (hf:Has O "newel/newellaw10.Deep" x_l10_Deep) (u0s:u1k O):u2n O:=by
 intro a r hm0;unfold s9o at hm0;refine b1i hf rfl (b0a (fA _) b0j) (b0e _) ?_;refine b1c (fun t h=>t 0 = .agg (vA a)) rfl fun t h s0=>?_;simp only [x_l10_Deep];apply b0b;intro K hK;simp only [go_sem,s0];apply hK;refine b0v ?_;apply b0b;intro K hK;simp only [go_sem];apply hK;refine b0i fun K1 hK1=>?_;simp only [go_sem];refine b0k (fun hc2=>?_) (fun hc2=>?_)
 ·rw [b0r hc2] at hm0;apply b0b;intro K hK;simp only [go_sem];apply hK;simp only [b0x,b1p,b2e,b0y];obtain rfl:=sI9 hm0;exact b04 vb9 (b0e _)
 ·rw [b0q hc2] at hm0;simp only [b0s,b02,b0f];refine hK1 _ _ ?_;refine b0v ?_;obtain ⟨y4,h_y4,hm0⟩:=b0g hm0;apply b0b;intro K hK;simp only [go_sem];refine b01 (u0s a _ h_y4) ?_;simp only [go_sem];apply hK;refine b0i fun K5 hK5=>?_;simp only [go_sem];refine b0k (fun hc6=>?_) (fun hc6=>?_)
  ·rw [b0r hc6] at hm0;apply b0b;intro K hK;simp only [go_sem];apply hK;simp only [b0x,b1p,b2e,b0y];obtain rfl:=sI9 hm0;exact b04 vb9 (b0e _)
  ·rw [b0q hc6] at hm0;simp only [b0s,b02,b0f];refine hK5 _ _ ?_;apply b0b;intro K hK;simp only [go_sem];apply hK;refine b0v ?_;apply b0b;intro K hK;simp only [go_sem];apply hK;refine b0i fun K7 hK7=>?_
   have J8:∀ (places_3:Int) (t:Slots) (h:Heap),t 1 = .fp (vA a) 0->t 3=I places_3->u1y a places_3=some r->K7 t h:=by
    intro places_3 t h s1 s3 hm0;refine hK7 _ _ ?_;unfold u1y at hm0;refine b2p (fun t h=>t 2=B ((((decide (2<(List.length a.Machine.Inputs:Int))) || (decide (24<places_3))) || (decide (6<a.Ticks))) || (decide (5<(List.length a.Records:Int))))) (fun K hK=>?_) ?_
    ·simp only [go_sem,s1,s3];refine b0k (fun hg9=>?_) (fun hg9=>?_)
     ·simp only [go_sem,s1,s3,hg9];exact hK _ _ (by first|(simp only [go_sem,hg9,lA9,mA9]; done)|rfl)
     ·simp only [go_sem,s1,s3,hg9];refine b0k (fun hg10=>?_) (fun hg10=>?_)
      ·simp only [go_sem,s1,s3,hg9,hg10];exact hK _ _ (by first|(simp only [go_sem,hg9,hg10,lA9,mA9]; done)|rfl)
      ·simp only [go_sem,s1,s3,hg9,hg10];refine b0k (fun hg11=>?_) (fun hg11=>?_)
       ·simp only [go_sem,s1,s3,hg9,hg10,hg11];exact hK _ _ (by first|(simp only [go_sem,hg9,hg10,hg11,lA9,mA9]; done)|rfl)
       ·simp only [go_sem,s1,s3,hg9,hg10,hg11];exact hK _ _ (by first|(simp only [go_sem,hg9,hg10,hg11,lA9,mA9]; done)|rfl)
    ·rintro t h s2;simp only [b0x,b1p,b2e,b0y];obtain rfl:=sI9 hm0;exact b04 (by simp only [go_sem,s2,lA9,mA9]) (b0e _)
   simp only [b0u];obtain ⟨b12,hl12,hm0⟩:=b0g hm0;refine b1j hl12 (fun|(places_3,i_4),t,h=>t 1 = .fp (vA a) 0/\t 3=I places_3/\t 4=I i_4) ?_ ?_
   ·exact ⟨va9,va9,va9⟩
   ·rintro ⟨places_3,i_4⟩ o t h ⟨s1,s3,s4⟩ hm1 hb12;simp only [u0v] at hm1;rw [u5w];refine b0v ?_;apply b0b;intro K hK;simp only [go_sem,s1,s4];apply hK;refine b0i fun K13 hK13=>?_;simp only [go_sem];refine b0k (fun hc14=>?_) (fun hc14=>?_)
    ·rw [b0r hc14] at hm1;simp only [b0s,b02,b0f];refine hK13 _ _ ?_;refine b0i fun K15 hK15=>?_;simp only [b0u];obtain ⟨x17,h_x17,hm1⟩:=b0g hm1;have h_x170:=b05 h_x17;have h_x171:=b06 h_x17;apply b03;intro K hK;simp only [go_sem,s1,s3,s4,b08 h_x17,b3n h_x17,h_x170,h_x171];apply hK;simp only [b02,b0f];refine hK15 _ _ ?_;apply b03;intro K hK;simp only [go_sem,s4];apply hK;simp only [b02,b0f];obtain rfl:=sI9 hm1;refine ⟨_,rfl,?_⟩;exact ⟨s1,(by first|(simp only [go_sem,s3,lA9,mA9]; done)|rfl),(by first|(simp only [go_sem,s4,lA9,mA9]; done)|rfl)⟩
    ·rw [b0q hc14] at hm1;simp only [b09,b1b,b1a,c0s,b02,b0f,Nat.reduceEqDiff,nF9];obtain rfl:=sI9 hm1;obtain rfl:=hb12 _ rfl
     try dsimp only at hm0
     exact J8 places_3 _ _ s1 s3 hm0
theorem L1w (hf:Has O "newel/neweltop.shown" x_neweltop_shown):L1z O:=by
 intro c r hm0;unfold L1l at hm0;refine b1i hf rfl (b0a (b0c fun a _=>b2j a) b0j) (b0e _) ?_;refine b1c (fun t h=>t 0 = .fs 1 (List.map b0t c)) rfl fun t h s0=>?_;simp only [x_neweltop_shown];apply b0b;intro K hK;simp only [go_sem];apply hK;refine b0v ?_;apply b0b;intro K hK;simp only [go_sem];apply hK;refine b0i fun K1 hK1=>?_
 have J2:∀ (t:Slots) (h:Heap),L12=some r->K1 t h:=by
  intro t h hm0;refine hK1 _ _ ?_;unfold L12 at hm0;apply b0b;intro K hK;simp only [go_sem];apply hK;simp only [b0x,b1p,b2e,b0y];obtain rfl:=sI9 hm0;exact b04 vb9 (b0e _)
 simp only [b0u];obtain ⟨b3,hl3,hm0⟩:=b0g hm0;refine b1j hl3 (fun|i_3,t,h=>t 0 = .fs 1 (List.map b0t c)/\t 3=I i_3) ?_ ?_
 ·exact ⟨s0,va9⟩
 ·rintro i_3 o t h ⟨s0,s3⟩ hm1 hb3;simp only [L1o] at hm1;rw [L2i];refine b0v ?_;apply b0b;intro K hK;simp only [go_sem,s0,s3];apply hK;refine b0i fun K4 hK4=>?_;simp only [go_sem];refine b0k (fun hc5=>?_) (fun hc5=>?_)
  ·rw [b0r hc5] at hm1;simp only [b0s,b02,b0f];refine hK4 _ _ ?_;refine b0i fun K6 hK6=>?_
   have J7:∀ (t:Slots) (h:Heap),t 0 = .fs 1 (List.map b0t c)->t 3=I i_3->L1y i_3=some o->K6 t h:=by
    intro t h s0 s3 hm1;refine hK6 _ _ ?_;unfold L1y at hm1;apply b03;intro K hK;simp only [go_sem,s3];apply hK;simp only [b02,b0f];obtain rfl:=sI9 hm1;refine ⟨_,rfl,?_⟩;exact ⟨s0,(by first|(simp only [go_sem,s3,lA9,mA9]; done)|rfl)⟩
   simp only [b0u];apply b0b;intro K hK;simp only [go_sem];apply hK;simp only [b0u];obtain ⟨b8,hl8,hm1⟩:=b0g hm1;refine b1j hl8 (fun|k_4,t,h=>t 0 = .fs 1 (List.map b0t c)/\t 3=I i_3/\t 4=I k_4) ?_ ?_
   ·exact ⟨s0,s3,va9⟩
   ·rintro k_4 o t h ⟨s0,s3,s4⟩ hm2 hb8;simp only [L1m] at hm2;rw [L2j];refine b0v ?_;obtain ⟨x10,h_x10,hm2⟩:=b0g hm2;have h_x100:=b05 h_x10;have h_x101:=b06 h_x10;apply b0b;intro K hK;simp only [go_sem,s0,s3,s4,b08 h_x10,b3n h_x10,h_x100,h_x101];apply hK;refine b0i fun K11 hK11=>?_;simp only [go_sem];refine b0k (fun hc12=>?_) (fun hc12=>?_)
    ·rw [b0r hc12] at hm2;simp only [b0s,b02,b0f];refine hK11 _ _ ?_;refine b0i fun K13 hK13=>?_;simp only [b0u];obtain ⟨x15,h_x15,hm2⟩:=b0g hm2;have h_x150:=b05 h_x15;have h_x151:=b06 h_x15;refine b2p (fun t h=>t 0 = .fs 1 (List.map b0t c)/\t 3=I i_3/\t 4=I k_4/\t 39=B ((decide (¬x15.Kind=1)) && (decide (¬x15.Kind=4)))) (fun K hK=>?_) ?_
     ·simp only [go_sem,s0,s3,s4,b08 h_x15,b3n h_x15,h_x150,h_x151,b08 h_x10,b3n h_x10,h_x100,h_x101];refine b0k (fun hg16=>?_) (fun hg16=>?_)
      ·simp only [go_sem,s0,s3,s4,b08 h_x15,b3n h_x15,h_x150,h_x151,b08 h_x10,b3n h_x10,h_x100,h_x101,hg16];exact hK _ _ ⟨s0,s3,s4,(by first|(simp only [go_sem,hg16,lA9,mA9]; done)|rfl)⟩
      ·simp only [go_sem,s0,s3,s4,b08 h_x15,b3n h_x15,h_x150,h_x151,b08 h_x10,b3n h_x10,h_x100,h_x101,hg16];exact hK _ _ ⟨s0,s3,s4,(by first|(simp only [go_sem,hg16,lA9,mA9]; done)|rfl)⟩
     ·rintro t h ⟨s0,s3,s4,s39⟩;simp only [go_sem,s39];refine b0k (fun hc17=>?_) (fun hc17=>?_)
      ·rw [b0r hc17] at hm2;apply b0b;intro K hK;simp only [go_sem];apply hK;simp only [b0x,b1p,b2e,b0y];obtain rfl:=sI9 hm2;obtain rfl:=hb8 _ rfl
       try dsimp only at hm1
       obtain rfl:=sI9 hm1;obtain rfl:=hb3 _ rfl
       try dsimp only at hm0
       obtain rfl:=sI9 hm0;exact b04 vb9 (b0e _)
      ·rw [b0q hc17] at hm2;simp only [b0s,b02,b0f];refine hK13 _ _ ?_;apply b03;intro K hK;simp only [go_sem,s4];apply hK;simp only [b02,b0f];obtain rfl:=sI9 hm2;refine ⟨_,rfl,?_⟩;exact ⟨s0,s3,(by first|(simp only [go_sem,s4,lA9,mA9]; done)|rfl)⟩
    ·rw [b0q hc12] at hm2;simp only [b09,b1b,b1a,c0s,b02,b0f,Nat.reduceEqDiff,nF9];obtain rfl:=sI9 hm2;obtain rfl:=hb8 _ rfl
     try dsimp only at hm1
     exact J7  _ _ s0 s3 hm1
  ·rw [b0q hc5] at hm1;simp only [b09,b1b,b1a,c0s,b02,b0f,Nat.reduceEqDiff,nF9];obtain rfl:=sI9 hm1;obtain rfl:=hb3 _ rfl
   try dsimp only at hm0
   exact J2  _ _  hm0
theorem c3i (hf:Has O "newel/newelref04.Check" x_r04_Check) (b4p:c5r O) (d3f:d0i O) (d3d:d0g O) (c3m:c5p O):c5k O:=by
 intro m r hm0;unfold c0u at hm0;refine b1i hf rfl (b0a (fM _) b0j) (b0e _) ?_;refine b1c (fun t h=>t 0 = .agg (vM m)) rfl fun t h s0=>?_;simp only [x_r04_Check];apply b0b;intro K hK;simp only [go_sem,s0];apply hK;refine b0v ?_;refine b2p (fun t h=>t 1 = .fp (vM m) 0/\t 39=B (((((decide (4<(List.length m.Inputs:Int))) || (decide (6<(List.length m.Outputs:Int)))) || (decide (2<(List.length m.Counters:Int)))) || (!(b2b (List.length m.States:Int) 1 12))) || (decide (40<(List.length m.Rules:Int))))) (fun K hK=>?_) ?_
 ·simp only [go_sem];refine b0k (fun hg1=>?_) (fun hg1=>?_)
  ·simp only [go_sem,hg1];exact hK _ _ ⟨(by first|(simp only [go_sem,hg1,lA9,mA9]; done)|rfl),(by first|(simp only [go_sem,hg1,lA9,mA9]; done)|rfl)⟩
  ·simp only [go_sem,hg1];refine b0k (fun hg2=>?_) (fun hg2=>?_)
   ·simp only [go_sem,hg1,hg2];exact hK _ _ ⟨(by first|(simp only [go_sem,hg1,hg2,lA9,mA9]; done)|rfl),(by first|(simp only [go_sem,hg1,hg2,lA9,mA9]; done)|rfl)⟩
   ·simp only [go_sem,hg1,hg2];refine b0k (fun hg3=>?_) (fun hg3=>?_)
    ·simp only [go_sem,hg1,hg2,hg3];exact hK _ _ ⟨(by first|(simp only [go_sem,hg1,hg2,hg3,lA9,mA9]; done)|rfl),(by first|(simp only [go_sem,hg1,hg2,hg3,lA9,mA9]; done)|rfl)⟩
    ·simp only [go_sem,hg1,hg2,hg3];refine b01 (b4p (List.length m.States:Int) 1 12) ?_;simp only [go_sem,hg1,hg2,hg3];refine b0k (fun hg4=>?_) (fun hg4=>?_)
     ·simp only [go_sem,hg1,hg2,hg3,hg4];exact hK _ _ ⟨(by first|(simp only [go_sem,hg1,hg2,hg3,hg4,lA9,mA9]; done)|rfl),(by first|(simp only [go_sem,hg1,hg2,hg3,hg4,lA9,mA9]; done)|rfl)⟩
     ·simp only [go_sem,hg1,hg2,hg3,hg4];exact hK _ _ ⟨(by first|(simp only [go_sem,hg1,hg2,hg3,hg4,lA9,mA9]; done)|rfl),(by first|(simp only [go_sem,hg1,hg2,hg3,hg4,lA9,mA9]; done)|rfl)⟩
 ·rintro t h ⟨s1,s39⟩;refine b0i fun K5 hK5=>?_;simp only [go_sem,s39];refine b0k (fun hc6=>?_) (fun hc6=>?_)
  ·rw [b0r hc6] at hm0;apply b0b;intro K hK;simp only [go_sem];apply hK;simp only [b0x,b1p,b2e,b0y];obtain rfl:=sI9 hm0;exact b04 vb9 (b0e _)
  ·rw [b0q hc6] at hm0;simp only [b0s,b02,b0f];refine hK5 _ _ ?_;obtain ⟨y8,h_y8,hm0⟩:=b0g hm0;apply b0b;intro K hK;simp only [go_sem,s1];refine b01 (d3f m _ h_y8) ?_;simp only [go_sem,s1];apply hK;refine b0v ?_;apply b0b;intro K hK;simp only [go_sem];apply hK;refine b0i fun K9 hK9=>?_
   have J10:∀ (t:Slots) (h:Heap),t 1 = .fp (vM m) 0->c77 m=some r->K9 t h:=by
    intro t h s1 hm0;refine hK9 _ _ ?_;unfold c77 at hm0;refine b0v ?_;apply b0b;intro K hK;simp only [go_sem];apply hK;refine b0i fun K11 hK11=>?_
    have J12:∀ (t:Slots) (h:Heap),t 1 = .fp (vM m) 0->c78 m=some r->K11 t h:=by
     intro t h s1 hm0;refine hK11 _ _ ?_;unfold c78 at hm0;refine b0v ?_;apply b0b;intro K hK;simp only [go_sem];apply hK;refine b0i fun K13 hK13=>?_
     have J14:∀ (t:Slots) (h:Heap),t 1 = .fp (vM m) 0->c79 m=some r->K13 t h:=by
      intro t h s1 hm0;refine hK13 _ _ ?_;unfold c79 at hm0;refine b0v ?_;apply b0b;intro K hK;simp only [go_sem];apply hK;refine b0i fun K15 hK15=>?_
      have J16:∀ (t:Slots) (h:Heap),d4p=some r->K15 t h:=by
       intro t h hm0;refine hK15 _ _ ?_;unfold d4p at hm0;apply b0b;intro K hK;simp only [go_sem];apply hK;simp only [b0x,b1p,b2e,b0y];obtain rfl:=sI9 hm0;exact b04 vb9 (b0e _)
      simp only [b0u];obtain ⟨b17,hl17,hm0⟩:=b0g hm0;refine b1j hl17 (fun|i_8,t,h=>t 1 = .fp (vM m) 0/\t 8=I i_8) ?_ ?_
      ·exact ⟨s1,va9⟩
      ·rintro i_8 o t h ⟨s1,s8⟩ hm1 hb17;simp only [b8v] at hm1;rw [g4k];refine b0v ?_;apply b0b;intro K hK;simp only [go_sem,s1,s8];apply hK;refine b0i fun K18 hK18=>?_;simp only [go_sem];refine b0k (fun hc19=>?_) (fun hc19=>?_)
       ·rw [b0r hc19] at hm1;simp only [b0s,b02,b0f];refine hK18 _ _ ?_;refine b0i fun K20 hK20=>?_
        have J21:∀ (t:Slots) (h:Heap),t 1 = .fp (vM m) 0->t 8=I i_8->c8a i_8=some o->K20 t h:=by
         intro t h s1 s8 hm1;refine hK20 _ _ ?_;unfold c8a at hm1;apply b03;intro K hK;simp only [go_sem,s8];apply hK;simp only [b02,b0f];obtain rfl:=sI9 hm1;refine ⟨_,rfl,?_⟩;exact ⟨s1,(by first|(simp only [go_sem,s8,lA9,mA9]; done)|rfl)⟩
        simp only [b0u];obtain ⟨x23,h_x23,hm1⟩:=b0g hm1;have h_x230:=b05 h_x23;have h_x231:=b06 h_x23;apply b0b;intro K hK;simp only [go_sem,s1,s8,b08 h_x23,b3n h_x23,h_x230,h_x231];apply hK;refine b0v ?_;obtain ⟨c27,h_c27,hm1⟩:=b0g hm1;refine b2p (fun t h=>∃ i9:Nat,t 1 = .fp (vM m) 0/\t 8=I i_8/\t 9 = .rp i9 0 0/\t 154=B (c27 || (decide (4<(List.length x23.Sets:Int))))/\h.ob i9=some (4,[[I x23.From,I x23.To,.fs 1 (List.map b0t x23.When),.fs 2 (List.map b2o x23.Sets)]])/\i9<h.nx) (fun K hK=>?_) ?_
        ·simp only [go_sem,s1];refine b01 (b4p x23.From (-1) (wr ((List.length m.States:Int) - 1))) ?_;simp only [go_sem,s1];refine b0k (fun hg28=>?_) (fun hg28=>?_)
         ·simp only [hg28,Bool.not_true,Bool.not_false,eq_self,if_true,if_false,Bool.true_or,Bool.or_true,Bool.false_or,Bool.or_false,Bool.true_and,Bool.and_true,Bool.false_and,Bool.and_false,fT9] at h_c27;obtain rfl:=sI9 h_c27;simp only [go_sem,s1,hg28];exact hK _ _ ⟨h.nx,s1,s8,(by first|(simp only [go_sem,hg28,lA9,mA9]; done)|rfl),(by first|(simp only [go_sem,hg28,lA9,mA9]; done)|rfl),(by simp only [go_sem,hg28,lA9,mA9]),ve9⟩
         ·simp only [go_sem,s1,hg28];refine b01 (b4p x23.To 0 (wr ((List.length m.States:Int) - 1))) ?_;simp only [go_sem,s1,hg28];refine b0k (fun hg29=>?_) (fun hg29=>?_)
          ·simp only [hg28,hg29,Bool.not_true,Bool.not_false,eq_self,if_true,if_false,Bool.true_or,Bool.or_true,Bool.false_or,Bool.or_false,Bool.true_and,Bool.and_true,Bool.false_and,Bool.and_false,fT9] at h_c27;obtain rfl:=sI9 h_c27;simp only [go_sem,s1,hg28,hg29];exact hK _ _ ⟨h.nx,s1,s8,(by first|(simp only [go_sem,hg28,hg29,lA9,mA9]; done)|rfl),(by first|(simp only [go_sem,hg28,hg29,lA9,mA9]; done)|rfl),(by simp only [go_sem,hg28,hg29,lA9,mA9]),ve9⟩
          ·simp only [hg28,hg29,Bool.not_true,Bool.not_false,eq_self,if_true,if_false,Bool.true_or,Bool.or_true,Bool.false_or,Bool.or_false,Bool.true_and,Bool.and_true,Bool.false_and,Bool.and_false,fT9] at h_c27;obtain ⟨y26,h_y26,h_c27⟩:=b0g h_c27;obtain rfl:=sI9 h_c27;simp only [go_sem,s1,hg28,hg29];refine b01 (c3m m x23.When false _ h_y26) ?_;simp only [go_sem,s1,hg28,hg29];refine b0k (fun hg30=>?_) (fun hg30=>?_)
           ·simp only [go_sem,s1,hg28,hg29,hg30];exact hK _ _ ⟨h.nx,s1,s8,(by first|(simp only [go_sem,hg28,hg29,hg30,lA9,mA9]; done)|rfl),(by first|(simp only [go_sem,hg28,hg29,hg30,lA9,mA9]; done)|rfl),(by simp only [go_sem,hg28,hg29,hg30,lA9,mA9]),ve9⟩
           ·simp only [go_sem,s1,hg28,hg29,hg30];exact hK _ _ ⟨h.nx,s1,s8,(by first|(simp only [go_sem,hg28,hg29,hg30,lA9,mA9]; done)|rfl),(by first|(simp only [go_sem,hg28,hg29,hg30,lA9,mA9]; done)|rfl),(by simp only [go_sem,hg28,hg29,hg30,lA9,mA9]),ve9⟩
        ·rintro t h ⟨i9,s1,s8,s9,s154,Qh,Qf⟩;refine b0i fun K31 hK31=>?_;simp only [go_sem,s154];refine b0k (fun hc32=>?_) (fun hc32=>?_)
         ·rw [b0r hc32] at hm1;apply b0b;intro K hK;simp only [go_sem,Qf];apply hK;simp only [b0x,b1p,b2e,b0y];obtain rfl:=sI9 hm1;obtain rfl:=hb17 _ rfl
          try dsimp only at hm0
          obtain rfl:=sI9 hm0;exact b04 (by simp only [go_sem,Qh,Qf,lA9,mA9]) (b0e _)
         ·rw [b0q hc32] at hm1;simp only [b0s,b02,b0f];refine hK31 _ _ ?_;apply b0b;intro K hK;simp only [go_sem,Qf];apply hK;simp only [b0u];obtain ⟨b33,hl33,hm1⟩:=b0g hm1;refine b1j hl33 (fun|k_10,t,h=>t 1 = .fp (vM m) 0/\t 8=I i_8/\t 9 = .rp i9 0 0/\t 10=I k_10/\h.ob i9=some (4,[[I x23.From,I x23.To,.fs 1 (List.map b0t x23.When),.fs 2 (List.map b2o x23.Sets)]])/\i9<h.nx) ?_ ?_
          ·exact ⟨s1,s8,s9,va9,Qh,Qf⟩
          ·rintro k_10 o t h ⟨s1,s8,s9,s10,Qh,Qf⟩ hm2 hb33;simp only [c39] at hm2;rw [g4j];refine b0v ?_;apply b0b;intro K hK;simp only [go_sem,s9,s10,Qh,Qf];apply hK;refine b0i fun K34 hK34=>?_;simp only [go_sem];refine b0k (fun hc35=>?_) (fun hc35=>?_)
           ·rw [b0r hc35] at hm2;simp only [b0s,b02,b0f];refine hK34 _ _ ?_;refine b0i fun K36 hK36=>?_;simp only [b0u];obtain ⟨x38,h_x38,hm2⟩:=b0g hm2;have h_x380:=b05 h_x38;have h_x381:=b06 h_x38;refine b2p (fun t h=>t 1 = .fp (vM m) 0/\t 8=I i_8/\t 9 = .rp i9 0 0/\t 10=I k_10/\t 183=B ((!(b2b x38.Kind 1 3)) || (!(b2b x38.Counter 0 (wr ((List.length m.Counters:Int) - 1)))))/\h.ob i9=some (4,[[I x23.From,I x23.To,.fs 1 (List.map b0t x23.When),.fs 2 (List.map b2o x23.Sets)]])/\i9<h.nx) (fun K hK=>?_) ?_
            ·simp only [go_sem,s1,s9,s10,Qh,Qf,b08 h_x38,b3n h_x38,h_x380,h_x381];refine b01 (b4p x38.Kind 1 3) ?_;simp only [go_sem,s1,s9,s10,Qh,Qf,b08 h_x38,b3n h_x38,h_x380,h_x381];refine b0k (fun hg39=>?_) (fun hg39=>?_)
             ·simp only [go_sem,s1,s9,s10,Qh,Qf,b08 h_x38,b3n h_x38,h_x380,h_x381,hg39];exact hK _ _ ⟨s1,s8,s9,s10,(by first|(simp only [go_sem,hg39,lA9,mA9]; done)|rfl),Qh,Qf⟩
             ·simp only [go_sem,s1,s9,s10,Qh,Qf,b08 h_x38,b3n h_x38,h_x380,h_x381,hg39];refine b01 (b4p x38.Counter 0 (wr ((List.length m.Counters:Int) - 1))) ?_;simp only [go_sem,s1,s9,s10,Qh,Qf,b08 h_x38,b3n h_x38,h_x380,h_x381,hg39];exact hK _ _ ⟨s1,s8,s9,s10,(by first|(simp only [go_sem,hg39,lA9,mA9]; done)|rfl),Qh,Qf⟩
            ·rintro t h ⟨s1,s8,s9,s10,s183,Qh,Qf⟩;simp only [go_sem,s183];refine b0k (fun hc40=>?_) (fun hc40=>?_)
             ·rw [b0r hc40] at hm2;apply b0b;intro K hK;simp only [go_sem,Qf];apply hK;simp only [b0x,b1p,b2e,b0y];obtain rfl:=sI9 hm2;obtain rfl:=hb33 _ rfl
              try dsimp only at hm1
              obtain rfl:=sI9 hm1;obtain rfl:=hb17 _ rfl
              try dsimp only at hm0
              obtain rfl:=sI9 hm0;exact b04 (by simp only [go_sem,Qh,Qf,lA9,mA9]) (b0e _)
             ·rw [b0q hc40] at hm2;simp only [b0s,b02,b0f];refine hK36 _ _ ?_;apply b03;intro K hK;simp only [go_sem,s10,Qf];apply hK;simp only [b02,b0f];obtain rfl:=sI9 hm2;refine ⟨_,rfl,?_⟩;exact ⟨s1,s8,s9,(by first|(simp only [go_sem,s10,lA9,mA9]; done)|rfl),Qh,Qf⟩
           ·rw [b0q hc35] at hm2;simp only [b09,b1b,b1a,c0s,b02,b0f,Nat.reduceEqDiff,nF9];obtain rfl:=sI9 hm2;obtain rfl:=hb33 _ rfl
            try dsimp only at hm1
            exact J21  _ _ s1 s8 hm1
       ·rw [b0q hc19] at hm1;simp only [b09,b1b,b1a,c0s,b02,b0f,Nat.reduceEqDiff,nF9];obtain rfl:=sI9 hm1;obtain rfl:=hb17 _ rfl
        try dsimp only at hm0
        exact J16  _ _  hm0
     simp only [b0u];obtain ⟨b43,hl43,hm0⟩:=b0g hm0;refine b1j hl43 (fun|i_7,t,h=>t 1 = .fp (vM m) 0/\t 7=I i_7) ?_ ?_
     ·exact ⟨s1,va9⟩
     ·rintro i_7 o t h ⟨s1,s7⟩ hm1 hb43;simp only [r8g] at hm1;rw [g4i];refine b0v ?_;apply b0b;intro K hK;simp only [go_sem,s1,s7];apply hK;refine b0i fun K44 hK44=>?_;simp only [go_sem];refine b0k (fun hc45=>?_) (fun hc45=>?_)
      ·rw [b0r hc45] at hm1;simp only [b0s,b02,b0f];refine hK44 _ _ ?_;refine b0i fun K46 hK46=>?_;simp only [b0u];obtain ⟨x49,h_x49,hm1⟩:=b0g hm1;have h_x490:=b05 h_x49;have h_x491:=b06 h_x49;obtain ⟨q50,h_q50,hm1⟩:=b0g hm1;apply b0b;intro K hK;simp only [go_sem,s1,s7,b08 h_x49,b3n h_x49,h_x490,h_x491,B8s h_q50];refine b01 (b4p x49.Shows 0 (wr (q50 - 1))) ?_;simp only [go_sem,s1,s7,b08 h_x49,b3n h_x49,h_x490,h_x491,B8s h_q50];apply hK;simp only [go_sem];refine b0k (fun hc51=>?_) (fun hc51=>?_)
       ·rw [b0r hc51] at hm1;apply b0b;intro K hK;simp only [go_sem];apply hK;simp only [b0x,b1p,b2e,b0y];obtain rfl:=sI9 hm1;obtain rfl:=hb43 _ rfl
        try dsimp only at hm0
        obtain rfl:=sI9 hm0;exact b04 vb9 (b0e _)
       ·rw [b0q hc51] at hm1;simp only [b0s,b02,b0f];refine hK46 _ _ ?_;apply b03;intro K hK;simp only [go_sem,s7];apply hK;simp only [b02,b0f];obtain rfl:=sI9 hm1;refine ⟨_,rfl,?_⟩;exact ⟨s1,(by first|(simp only [go_sem,s7,lA9,mA9]; done)|rfl)⟩
      ·rw [b0q hc45] at hm1;simp only [b09,b1b,b1a,c0s,b02,b0f,Nat.reduceEqDiff,nF9];obtain rfl:=sI9 hm1;obtain rfl:=hb43 _ rfl
       try dsimp only at hm0
       exact J14  _ _ s1 hm0
    simp only [b0u];obtain ⟨b53,hl53,hm0⟩:=b0g hm0;refine b1j hl53 (fun|i_6,t,h=>t 1 = .fp (vM m) 0/\t 6=I i_6) ?_ ?_
    ·exact ⟨s1,va9⟩
    ·rintro i_6 o t h ⟨s1,s6⟩ hm1 hb53;simp only [p6x] at hm1;rw [g4h];refine b0v ?_;apply b0b;intro K hK;simp only [go_sem,s1,s6];apply hK;refine b0i fun K54 hK54=>?_;simp only [go_sem];refine b0k (fun hc55=>?_) (fun hc55=>?_)
     ·rw [b0r hc55] at hm1;simp only [b0s,b02,b0f];refine hK54 _ _ ?_;refine b0i fun K56 hK56=>?_;simp only [b0u];obtain ⟨x58,h_x58,hm1⟩:=b0g hm1;have h_x580:=b05 h_x58;have h_x581:=b06 h_x58;apply b0b;intro K hK;simp only [go_sem,s1,s6,b08 h_x58,b3n h_x58,h_x580,h_x581];refine b01 (b4p x58.Max 1 7) ?_;simp only [go_sem,s1,s6,b08 h_x58,b3n h_x58,h_x580,h_x581];apply hK;simp only [go_sem];refine b0k (fun hc59=>?_) (fun hc59=>?_)
      ·rw [b0r hc59] at hm1;apply b0b;intro K hK;simp only [go_sem];apply hK;simp only [b0x,b1p,b2e,b0y];obtain rfl:=sI9 hm1;obtain rfl:=hb53 _ rfl
       try dsimp only at hm0
       obtain rfl:=sI9 hm0;exact b04 vb9 (b0e _)
      ·rw [b0q hc59] at hm1;simp only [b0s,b02,b0f];refine hK56 _ _ ?_;apply b03;intro K hK;simp only [go_sem,s6];apply hK;simp only [b02,b0f];obtain rfl:=sI9 hm1;refine ⟨_,rfl,?_⟩;exact ⟨s1,(by first|(simp only [go_sem,s6,lA9,mA9]; done)|rfl)⟩
     ·rw [b0q hc55] at hm1;simp only [b09,b1b,b1a,c0s,b02,b0f,Nat.reduceEqDiff,nF9];obtain rfl:=sI9 hm1;obtain rfl:=hb53 _ rfl
      try dsimp only at hm0
      exact J12  _ _ s1 hm0
   simp only [b0u];obtain ⟨b61,hl61,hm0⟩:=b0g hm0;refine b1j hl61 (fun|i_4,t,h=>t 1 = .fp (vM m) 0/\t 3 = .fs 1 (List.map eS y8)/\t 4=I i_4) ?_ ?_
   ·exact ⟨s1,va9,va9⟩
   ·rintro i_4 o t h ⟨s1,s3,s4⟩ hm1 hb61;simp only [b7n] at hm1;rw [g4g];refine b0v ?_;apply b0b;intro K hK;simp only [go_sem,s3,s4];apply hK;refine b0i fun K62 hK62=>?_;simp only [go_sem];refine b0k (fun hc63=>?_) (fun hc63=>?_)
    ·rw [b0r hc63] at hm1;simp only [b0s,b02,b0f];refine hK62 _ _ ?_;refine b0i fun K64 hK64=>?_
     have J65:∀ (t:Slots) (h:Heap),t 1 = .fp (vM m) 0->t 3 = .fs 1 (List.map eS y8)->t 4=I i_4->c8b i_4=some o->K64 t h:=by
      intro t h s1 s3 s4 hm1;refine hK64 _ _ ?_;unfold c8b at hm1;apply b03;intro K hK;simp only [go_sem,s4];apply hK;simp only [b02,b0f];obtain rfl:=sI9 hm1;refine ⟨_,rfl,?_⟩;exact ⟨s1,s3,(by first|(simp only [go_sem,s4,lA9,mA9]; done)|rfl)⟩
     simp only [b0u];refine b0v ?_;obtain ⟨x69,h_x69,hm1⟩:=b0g hm1;have h_x690:=b05 h_x69;have h_x691:=b06 h_x69;obtain ⟨c71,h_c71,hm1⟩:=b0g hm1;refine b2p (fun t h=>t 1 = .fp (vM m) 0/\t 3 = .fs 1 (List.map eS y8)/\t 4=I i_4/\t 61=B c71) (fun K hK=>?_) ?_
     ·simp only [go_sem,s3,s4,b08 h_x69,b3n h_x69,h_x690,h_x691];refine b0k (fun hg72=>?_) (fun hg72=>?_)
      ·simp only [hg72,Bool.not_true,Bool.not_false,eq_self,if_true,if_false,Bool.true_or,Bool.or_true,Bool.false_or,Bool.or_false,Bool.true_and,Bool.and_true,Bool.false_and,Bool.and_false,fT9] at h_c71;obtain rfl:=sI9 h_c71;simp only [go_sem,s3,s4,b08 h_x69,b3n h_x69,h_x690,h_x691,hg72];exact hK _ _ ⟨s1,s3,s4,(by first|(simp only [go_sem,hg72,lA9,mA9]; done)|rfl)⟩
      ·simp only [hg72,Bool.not_true,Bool.not_false,eq_self,if_true,if_false,Bool.true_or,Bool.or_true,Bool.false_or,Bool.or_false,Bool.true_and,Bool.and_true,Bool.false_and,Bool.and_false,fT9] at h_c71;obtain ⟨y70,h_y70,h_c71⟩:=b0g h_c71;obtain rfl:=sI9 h_c71;simp only [go_sem,s3,s4,b08 h_x69,b3n h_x69,h_x690,h_x691,hg72];refine b01 (d3d x69 _ h_y70) ?_;simp only [go_sem,s3,s4,b08 h_x69,b3n h_x69,h_x690,h_x691,hg72];exact hK _ _ ⟨s1,s3,s4,(by first|(simp only [go_sem,hg72,lA9,mA9]; done)|rfl)⟩
     ·rintro t h ⟨s1,s3,s4,s61⟩;refine b0i fun K73 hK73=>?_;simp only [go_sem,s61];refine b0k (fun hc74=>?_) (fun hc74=>?_)
      ·rw [b0r hc74] at hm1;apply b0b;intro K hK;simp only [go_sem];apply hK;simp only [b0x,b1p,b2e,b0y];obtain rfl:=sI9 hm1;obtain rfl:=hb61 _ rfl
       try dsimp only at hm0
       obtain rfl:=sI9 hm0;exact b04 vb9 (b0e _)
      ·rw [b0q hc74] at hm1;simp only [b0s,b02,b0f];refine hK73 _ _ ?_;apply b0b;intro K hK;simp only [go_sem];apply hK;simp only [b0u];obtain ⟨b75,hl75,hm1⟩:=b0g hm1;refine b1j hl75 (fun|k_5,t,h=>t 1 = .fp (vM m) 0/\t 3 = .fs 1 (List.map eS y8)/\t 4=I i_4/\t 5=I k_5) ?_ ?_
       ·exact ⟨s1,s3,s4,va9⟩
       ·rintro k_5 o t h ⟨s1,s3,s4,s5⟩ hm2 hb75;simp only [b8u] at hm2;rw [g4f];refine b0v ?_;apply b0b;intro K hK;simp only [go_sem,s4,s5];apply hK;refine b0i fun K76 hK76=>?_;simp only [go_sem];refine b0k (fun hc77=>?_) (fun hc77=>?_)
        ·rw [b0r hc77] at hm2;simp only [b0s,b02,b0f];refine hK76 _ _ ?_;refine b0i fun K78 hK78=>?_;simp only [b0u];obtain ⟨x81,h_x81,hm2⟩:=b0g hm2;have h_x810:=b05 h_x81;have h_x811:=b06 h_x81;obtain ⟨x82,h_x82,hm2⟩:=b0g hm2;have h_x820:=b05 h_x82;have h_x821:=b06 h_x82;apply b0b;intro K hK;simp only [go_sem,s3,s4,s5,b08 h_x81,b3n h_x81,h_x810,h_x811,b08 h_x82,b3n h_x82,h_x820,h_x821];apply hK;simp only [go_sem];refine b0k (fun hc83=>?_) (fun hc83=>?_)
         ·rw [b0r hc83] at hm2;apply b0b;intro K hK;simp only [go_sem];apply hK;simp only [b0x,b1p,b2e,b0y];obtain rfl:=sI9 hm2;obtain rfl:=hb75 _ rfl
          try dsimp only at hm1
          obtain rfl:=sI9 hm1;obtain rfl:=hb61 _ rfl
          try dsimp only at hm0
          obtain rfl:=sI9 hm0;exact b04 vb9 (b0e _)
         ·rw [b0q hc83] at hm2;simp only [b0s,b02,b0f];refine hK78 _ _ ?_;apply b03;intro K hK;simp only [go_sem,s5];apply hK;simp only [b02,b0f];obtain rfl:=sI9 hm2;refine ⟨_,rfl,?_⟩;exact ⟨s1,s3,s4,(by first|(simp only [go_sem,s5,lA9,mA9]; done)|rfl)⟩
        ·rw [b0q hc77] at hm2;simp only [b09,b1b,b1a,c0s,b02,b0f,Nat.reduceEqDiff,nF9];obtain rfl:=sI9 hm2;obtain rfl:=hb75 _ rfl
         try dsimp only at hm1
         exact J65  _ _ s1 s3 s4 hm1
    ·rw [b0q hc63] at hm1;simp only [b09,b1b,b1a,c0s,b02,b0f,Nat.reduceEqDiff,nF9];obtain rfl:=sI9 hm1;obtain rfl:=hb61 _ rfl
     try dsimp only at hm0
     exact J10  _ _ s1 hm0
theorem c3j (hf:Has O "newel/newelref04.CheckConds" x_r04_CheckConds) (c3i:c5k O) (c3m:c5p O):c5l O:=by
 intro m l r hm0;unfold c0v at hm0;refine b1i hf rfl (b0a (fM _) (b0a (b0c fun a _=>b97 a) b0j)) (b0e _) ?_;refine b1c (fun t h=>t 0 = .agg (vM m)/\t 1 = .fs 1 (List.map b4v l)) ⟨rfl,rfl⟩ fun t h ⟨s0,s1⟩=>?_;simp only [x_r04_CheckConds];apply b0b;intro K hK;simp only [go_sem,s0];apply hK;obtain ⟨y2,h_y2,hm0⟩:=b0g hm0;apply b0b;intro K hK;simp only [go_sem];refine b01 (c3i m _ h_y2) ?_;simp only [go_sem];apply hK;refine b0v ?_;apply b0b;intro K hK;simp only [go_sem];apply hK;refine b0i fun K3 hK3=>?_;simp only [go_sem];refine b0k (fun hc4=>?_) (fun hc4=>?_)
 ·rw [b0r hc4] at hm0;apply b0b;intro K hK;simp only [go_sem];apply hK;simp only [b0x,b1p,b2e,b0y];obtain rfl:=sI9 hm0;exact b04 vb9 (b0e _)
 ·rw [b0q hc4] at hm0;simp only [b0s,b02,b0f];refine hK3 _ _ ?_;refine b0v ?_;apply b0b;intro K hK;simp only [go_sem];apply hK;refine b0i fun K5 hK5=>?_
  have J6:∀ (t:Slots) (h:Heap),d4o=some r->K5 t h:=by
   intro t h hm0;refine hK5 _ _ ?_;unfold d4o at hm0;apply b0b;intro K hK;simp only [go_sem];apply hK;simp only [b0x,b1p,b2e,b0y];obtain rfl:=sI9 hm0;exact b04 vb9 (b0e _)
  simp only [b0u];obtain ⟨b7,hl7,hm0⟩:=b0g hm0;refine b1j hl7 (fun|i_6,t,h=>t 1 = .fs 1 (List.map b4v l)/\t 2 = .fp (vM m) 0/\t 6=I i_6) ?_ ?_
  ·exact ⟨s1,va9,va9⟩
  ·rintro i_6 o t h ⟨s1,s2,s6⟩ hm1 hb7;simp only [p5t] at hm1;rw [g4e];refine b0v ?_;apply b0b;intro K hK;simp only [go_sem,s1,s6];apply hK;refine b0i fun K8 hK8=>?_;simp only [go_sem];refine b0k (fun hc9=>?_) (fun hc9=>?_)
   ·rw [b0r hc9] at hm1;simp only [b0s,b02,b0f];refine hK8 _ _ ?_;refine b0i fun K10 hK10=>?_;simp only [b0u];obtain ⟨x13,h_x13,hm1⟩:=b0g hm1;have h_x130:=b05 h_x13;have h_x131:=b06 h_x13;obtain ⟨y14,h_y14,hm1⟩:=b0g hm1;apply b0b;intro K hK;simp only [go_sem,s1,s2,s6,b08 h_x13,b3n h_x13,h_x130,h_x131];refine b01 (c3m m x13 true _ h_y14) ?_;simp only [go_sem,s1,s2,s6,b08 h_x13,b3n h_x13,h_x130,h_x131];apply hK;simp only [go_sem];refine b0k (fun hc15=>?_) (fun hc15=>?_)
    ·rw [b0r hc15] at hm1;apply b0b;intro K hK;simp only [go_sem];apply hK;simp only [b0x,b1p,b2e,b0y];obtain rfl:=sI9 hm1;obtain rfl:=hb7 _ rfl
     try dsimp only at hm0
     obtain rfl:=sI9 hm0;exact b04 vb9 (b0e _)
    ·rw [b0q hc15] at hm1;simp only [b0s,b02,b0f];refine hK10 _ _ ?_;apply b03;intro K hK;simp only [go_sem,s6];apply hK;simp only [b02,b0f];obtain rfl:=sI9 hm1;refine ⟨_,rfl,?_⟩;exact ⟨s1,s2,(by first|(simp only [go_sem,s6,lA9,mA9]; done)|rfl)⟩
   ·rw [b0q hc9] at hm1;simp only [b09,b1b,b1a,c0s,b02,b0f,Nat.reduceEqDiff,nF9];obtain rfl:=sI9 hm1;obtain rfl:=hb7 _ rfl
    try dsimp only at hm0
    exact J6  _ _  hm0
theorem d3d (hf:Has O "newel/newelref04.Word" x_r04_Word):d0g O:=by
 intro s r hm0;unfold c02 at hm0;refine b1i hf rfl (b0a (b0e _) b0j) (b0e _) ?_;refine b1c (fun t h=>t 0 = .v (.string s)) rfl fun t h s0=>?_;simp only [x_r04_Word];apply b0b;intro K hK;simp only [go_sem];apply hK;refine b0v ?_;apply b0b;intro K hK;simp only [go_sem];apply hK;refine b0i fun K1 hK1=>?_
 have J2:∀ (t:Slots) (h:Heap),t 0 = .v (.string s)->c8o s=some r->K1 t h:=by
  intro t h s0 hm0;refine hK1 _ _ ?_;unfold c8o at hm0;refine b0v ?_;apply b0b;intro K hK;simp only [go_sem];apply hK;refine b0i fun K3 hK3=>?_
  have J4:∀ (t:Slots) (h:Heap),t 0 = .v (.string s)->d4r s=some r->K3 t h:=by
   intro t h s0 hm0;refine hK3 _ _ ?_;unfold d4r at hm0;apply b0b;intro K hK;simp only [go_sem,s0];apply hK;simp only [b0x,b1p,b2e,b0y];obtain rfl:=sI9 hm0;exact b04 vb9 (b0e _)
  simp only [b0u];obtain ⟨b5,hl5,hm0⟩:=b0g hm0;refine b1j hl5 (fun|i_4,t,h=>t 0 = .v (.string s)/\t 4=I i_4) ?_ ?_
  ·exact ⟨s0,va9⟩
  ·rintro i_4 o t h ⟨s0,s4⟩ hm1 hb5;simp only [c4i] at hm1;rw [g4w];refine b0v ?_;apply b0b;intro K hK;simp only [go_sem,s0,s4];apply hK;refine b0i fun K6 hK6=>?_;simp only [go_sem];refine b0k (fun hc7=>?_) (fun hc7=>?_)
   ·rw [b0r hc7] at hm1;simp only [b0s,b02,b0f];refine hK6 _ _ ?_;refine b0i fun K8 hK8=>?_;simp only [b0u];obtain ⟨x10,h_x10,hm1⟩:=b0g hm1;refine b2p (fun t h=>t 0 = .v (.string s)/\t 4=I i_4/\t 32=B ((decide (x10<97)) || (decide (122<x10)))) (fun K hK=>?_) ?_
    ·simp only [go_sem,s0,s4,d95 h_x10];refine b0k (fun hg11=>?_) (fun hg11=>?_)
     ·simp only [go_sem,s0,s4,d95 h_x10,hg11];exact hK _ _ ⟨s0,s4,(by first|(simp only [go_sem,hg11,lA9,mA9]; done)|rfl)⟩
     ·simp only [go_sem,s0,s4,d95 h_x10,hg11];exact hK _ _ ⟨s0,s4,(by first|(simp only [go_sem,hg11,lA9,mA9]; done)|rfl)⟩
    ·rintro t h ⟨s0,s4,s32⟩;simp only [go_sem,s32];refine b0k (fun hc12=>?_) (fun hc12=>?_)
     ·rw [b0r hc12] at hm1;apply b0b;intro K hK;simp only [go_sem];apply hK;simp only [b0x,b1p,b2e,b0y];obtain rfl:=sI9 hm1;obtain rfl:=hb5 _ rfl
      try dsimp only at hm0
      obtain rfl:=sI9 hm0;exact b04 vb9 (b0e _)
     ·rw [b0q hc12] at hm1;simp only [b0s,b02,b0f];refine hK8 _ _ ?_;apply b03;intro K hK;simp only [go_sem,s4];apply hK;simp only [b02,b0f];obtain rfl:=sI9 hm1;refine ⟨_,rfl,?_⟩;exact ⟨s0,(by first|(simp only [go_sem,s4,lA9,mA9]; done)|rfl)⟩
   ·rw [b0q hc7] at hm1;simp only [b09,b1b,b1a,c0s,b02,b0f,Nat.reduceEqDiff,nF9];obtain rfl:=sI9 hm1;obtain rfl:=hb5 _ rfl
    try dsimp only at hm0
    exact J4  _ _ s0 hm0
 simp only [b0u];obtain ⟨b14,hl14,hm0⟩:=b0g hm0;refine b1j hl14 (fun|i_3,t,h=>t 0 = .v (.string s)/\t 3=I i_3) ?_ ?_
 ·exact ⟨s0,va9⟩
 ·rintro i_3 o t h ⟨s0,s3⟩ hm1 hb14;simp only [c4j] at hm1;rw [g4x];refine b0v ?_;apply b0b;intro K hK;simp only [go_sem,s3];apply hK;refine b0i fun K15 hK15=>?_;simp only [go_sem];refine b0k (fun hc16=>?_) (fun hc16=>?_)
  ·rw [b0r hc16] at hm1;simp only [b0s,b02,b0f];refine hK15 _ _ ?_;refine b0i fun K17 hK17=>?_;simp only [b0u];obtain ⟨x19,h_x19,hm1⟩:=b0g hm1;have h_x190:=b05 h_x19;have h_x191:=b06 h_x19;apply b0b;intro K hK;simp only [go_sem,s0,s3,b08 h_x19,b3n h_x19,h_x190,h_x191];apply hK;simp only [go_sem];refine b0k (fun hc20=>?_) (fun hc20=>?_)
   ·rw [b0r hc20] at hm1;apply b0b;intro K hK;simp only [go_sem];apply hK;simp only [b0x,b1p,b2e,b0y];obtain rfl:=sI9 hm1;obtain rfl:=hb14 _ rfl
    try dsimp only at hm0
    obtain rfl:=sI9 hm0;exact b04 vb9 (b0e _)
   ·rw [b0q hc20] at hm1;simp only [b0s,b02,b0f];refine hK17 _ _ ?_;apply b03;intro K hK;simp only [go_sem,s3];apply hK;simp only [b02,b0f];obtain rfl:=sI9 hm1;refine ⟨_,rfl,?_⟩;exact ⟨s0,(by first|(simp only [go_sem,s3,lA9,mA9]; done)|rfl)⟩
  ·rw [b0q hc16] at hm1;simp only [b09,b1b,b1a,c0s,b02,b0f,Nat.reduceEqDiff,nF9];obtain rfl:=sI9 hm1;obtain rfl:=hb14 _ rfl
   try dsimp only at hm0
   exact J2  _ _ s0 hm0
theorem c3m (hf:Has O "newel/newelref04.condition" x_r04_condition) (b4p:c5r O):c5p O:=by
 intro m c inside r hm0;unfold c04 at hm0;refine b1i hf rfl (b0a (fM _) (b0a (b0c fun a _=>b2j a) (b0a (b0e _) b0j))) (b0e _) ?_;refine b1c (fun t h=>t 0 = .agg (vM m)/\t 1 = .fs 1 (List.map b0t c)/\t 2=B inside) ⟨rfl,rfl,rfl⟩ fun t h ⟨s0,s1,s2⟩=>?_;simp only [x_r04_condition];apply b0b;intro K hK;simp only [go_sem,s0];apply hK;refine b0v ?_;apply b0b;intro K hK;simp only [go_sem,s1];apply hK;refine b0i fun K1 hK1=>?_;simp only [go_sem];refine b0k (fun hc2=>?_) (fun hc2=>?_)
 ·rw [b0r hc2] at hm0;apply b0b;intro K hK;simp only [go_sem];apply hK;simp only [b0x,b1p,b2e,b0y];obtain rfl:=sI9 hm0;exact b04 vb9 (b0e _)
 ·rw [b0q hc2] at hm0;simp only [b0s,b02,b0f];refine hK1 _ _ ?_;refine b0v ?_;apply b0b;intro K hK;simp only [go_sem];apply hK;refine b0i fun K3 hK3=>?_
  have J4:∀ (t:Slots) (h:Heap),d4s=some r->K3 t h:=by
   intro t h hm0;refine hK3 _ _ ?_;unfold d4s at hm0;apply b0b;intro K hK;simp only [go_sem];apply hK;simp only [b0x,b1p,b2e,b0y];obtain rfl:=sI9 hm0;exact b04 vb9 (b0e _)
  simp only [b0u];obtain ⟨b5,hl5,hm0⟩:=b0g hm0;refine b1j hl5 (fun|i_7,t,h=>t 1 = .fs 1 (List.map b0t c)/\t 2=B inside/\t 3 = .fp (vM m) 0/\t 7=I i_7) ?_ ?_
  ·exact ⟨s1,s2,va9,va9⟩
  ·rintro i_7 o t h ⟨s1,s2,s3,s7⟩ hm1 hb5;simp only [c05] at hm1;rw [g4z];refine b0v ?_;apply b0b;intro K hK;simp only [go_sem,s1,s7];apply hK;refine b0i fun K6 hK6=>?_;simp only [go_sem];refine b0k (fun hc7=>?_) (fun hc7=>?_)
   ·rw [b0r hc7] at hm1;simp only [b0s,b02,b0f];refine hK6 _ _ ?_;refine b0i fun K8 hK8=>?_
    have J9:∀ (t:Slots) (h:Heap),t 1 = .fs 1 (List.map b0t c)->t 2=B inside->t 3 = .fp (vM m) 0->t 7=I i_7->c8p i_7=some o->K8 t h:=by
     intro t h s1 s2 s3 s7 hm1;refine hK8 _ _ ?_;unfold c8p at hm1;apply b03;intro K hK;simp only [go_sem,s7];apply hK;simp only [b02,b0f];obtain rfl:=sI9 hm1;refine ⟨_,rfl,?_⟩;exact ⟨s1,s2,s3,(by first|(simp only [go_sem,s7,lA9,mA9]; done)|rfl)⟩
    simp only [b0u];refine b0v ?_;obtain ⟨x11,h_x11,hm1⟩:=b0g hm1;have h_x110:=b05 h_x11;have h_x111:=b06 h_x11;apply b0b;intro K hK;simp only [go_sem,s1,s7,b08 h_x11,b3n h_x11,h_x110,h_x111];apply hK;refine b0i fun K12 hK12=>?_;simp only [go_sem];refine b0k (fun hc13=>?_) (fun hc13=>?_)
    ·rw [b0r hc13] at hm1;apply b0b;intro K hK;simp only [go_sem];apply hK;simp only [b0x,b1p,b2e,b0y];obtain rfl:=sI9 hm1;obtain rfl:=hb5 _ rfl
     try dsimp only at hm0
     obtain rfl:=sI9 hm0;exact b04 vb9 (b0e _)
    ·rw [b0q hc13] at hm1;simp only [b0s,b02,b0f];refine hK12 _ _ ?_;apply b0b;intro K hK;simp only [go_sem];apply hK;simp only [b0u];obtain ⟨b14,hl14,hm1⟩:=b0g hm1;refine b1j hl14 (fun|k_8,t,h=>t 1 = .fs 1 (List.map b0t c)/\t 2=B inside/\t 3 = .fp (vM m) 0/\t 7=I i_7/\t 8=I k_8) ?_ ?_
     ·exact ⟨s1,s2,s3,s7,va9⟩
     ·rintro k_8 o t h ⟨s1,s2,s3,s7,s8⟩ hm2 hb14;simp only [b8y] at hm2;rw [g4y];refine b0v ?_;obtain ⟨x16,h_x16,hm2⟩:=b0g hm2;have h_x160:=b05 h_x16;have h_x161:=b06 h_x16;apply b0b;intro K hK;simp only [go_sem,s1,s7,s8,b08 h_x16,b3n h_x16,h_x160,h_x161];apply hK;refine b0i fun K17 hK17=>?_;simp only [go_sem];refine b0k (fun hc18=>?_) (fun hc18=>?_)
      ·rw [b0r hc18] at hm2;simp only [b0s,b02,b0f];refine hK17 _ _ ?_;refine b0i fun K19 hK19=>?_;simp only [b0u];obtain ⟨x21,h_x21,hm2⟩:=b0g hm2;have h_x210:=b05 h_x21;have h_x211:=b06 h_x21;apply b0b;intro K hK;simp only [go_sem,s1,s7,s8,b08 h_x21,b3n h_x21,h_x210,h_x211,b08 h_x16,b3n h_x16,h_x160,h_x161];apply hK;apply b0b;intro K hK;simp only [go_sem];apply hK;refine b0v ?_;apply b0b;intro K hK;simp only [go_sem];apply hK;refine b0i fun K22 hK22=>?_
       have J23:∀ (is_10:Bool) (t:Slots) (h:Heap),t 1 = .fs 1 (List.map b0t c)->t 2=B inside->t 3 = .fp (vM m) 0->t 7=I i_7->t 8=I k_8->t 10=B is_10->b7p k_8 is_10=some o->K22 t h:=by
        intro is_10 t h s1 s2 s3 s7 s8 s10 hm2;refine hK22 _ _ ?_;unfold b7p at hm2;apply b0b;intro K hK;simp only [go_sem,s10];apply hK;simp only [go_sem];refine b0k (fun hc24=>?_) (fun hc24=>?_)
        ·rw [b0r hc24] at hm2;apply b0b;intro K hK;simp only [go_sem];apply hK;simp only [b0x,b1p,b2e,b0y];obtain rfl:=sI9 hm2;obtain rfl:=hb14 _ rfl
         try dsimp only at hm1
         obtain rfl:=sI9 hm1;obtain rfl:=hb5 _ rfl
         try dsimp only at hm0
         obtain rfl:=sI9 hm0;exact b04 vb9 (b0e _)
        ·rw [b0q hc24] at hm2;simp only [b0s,b02,b0f];refine hK19 _ _ ?_;apply b03;intro K hK;simp only [go_sem,s8];apply hK;simp only [b02,b0f];obtain rfl:=sI9 hm2;refine ⟨_,rfl,?_⟩;exact ⟨s1,s2,s3,s7,(by first|(simp only [go_sem,s8,lA9,mA9]; done)|rfl)⟩
       simp only [b0u];apply b0b;intro K hK;simp only [go_sem];apply hK;simp only [go_sem];refine b0k (fun hc25=>?_) (fun hc25=>?_)
       ·rw [b0r hc25] at hm2;refine b9y (fun t h=>t 1 = .fs 1 (List.map b0t c)/\t 2=B inside/\t 3 = .fp (vM m) 0/\t 7=I i_7/\t 8=I k_8/\t 10=B ((b2b x21.Number 0 (wr ((List.length m.Inputs:Int) - 1))) && (decide (x21.Value=0)))) (fun K hK=>?_) ?_
        ·simp only [go_sem,s3];refine b01 (b4p x21.Number 0 (wr ((List.length m.Inputs:Int) - 1))) ?_;simp only [go_sem,s3];refine b0k (fun hg26=>?_) (fun hg26=>?_)
         ·simp only [go_sem,s3,hg26];exact hK _ _ ⟨s1,s2,s3,s7,s8,(by first|(simp only [go_sem,hg26,lA9,mA9]; done)|rfl)⟩
         ·simp only [go_sem,s3,hg26];exact hK _ _ ⟨s1,s2,s3,s7,s8,(by first|(simp only [go_sem,hg26,lA9,mA9]; done)|rfl)⟩
        ·rintro t h ⟨s1,s2,s3,s7,s8,s10⟩;simp only [b02,b0f];exact J23 ((b2b x21.Number 0 (wr ((List.length m.Inputs:Int) - 1))) && (decide (x21.Value=0))) _ _ s1 s2 s3 s7 s8 s10 hm2
       ·rw [b0q hc25] at hm2;apply b0b;intro K hK;simp only [go_sem];apply hK;simp only [go_sem];refine b0k (fun hc27=>?_) (fun hc27=>?_)
        ·rw [b0r hc27] at hm2;obtain ⟨c31,h_c31,hm2⟩:=b0g hm2;refine b9y (fun t h=>t 1 = .fs 1 (List.map b0t c)/\t 2=B inside/\t 3 = .fp (vM m) 0/\t 7=I i_7/\t 8=I k_8/\t 10=B c31) (fun K hK=>?_) ?_
         ·simp only [go_sem,s3];refine b01 (b4p x21.Number 0 (wr ((List.length m.Counters:Int) - 1))) ?_;simp only [go_sem,s3];refine b0k (fun hg32=>?_) (fun hg32=>?_)
          ·simp only [hg32,Bool.not_true,Bool.not_false,eq_self,if_true,if_false,Bool.true_or,Bool.or_true,Bool.false_or,Bool.or_false,Bool.true_and,Bool.and_true,Bool.false_and,Bool.and_false,fT9] at h_c31;obtain ⟨x30,h_x30,h_c31⟩:=b0g h_c31;have h_x300:=b05 h_x30;have h_x301:=b06 h_x30;obtain rfl:=sI9 h_c31;simp only [go_sem,s3,b08 h_x30,b3n h_x30,h_x300,h_x301,hg32];refine b01 (b4p x21.Value 0 x30.Max) ?_;simp only [go_sem,s3,b08 h_x30,b3n h_x30,h_x300,h_x301,hg32];exact hK _ _ ⟨s1,s2,s3,s7,s8,(by first|(simp only [go_sem,hg32,lA9,mA9]; done)|rfl)⟩
          ·simp only [hg32,Bool.not_true,Bool.not_false,eq_self,if_true,if_false,Bool.true_or,Bool.or_true,Bool.false_or,Bool.or_false,Bool.true_and,Bool.and_true,Bool.false_and,Bool.and_false,fT9] at h_c31;obtain rfl:=sI9 h_c31;simp only [go_sem,s3,hg32];exact hK _ _ ⟨s1,s2,s3,s7,s8,(by first|(simp only [go_sem,hg32,lA9,mA9]; done)|rfl)⟩
         ·rintro t h ⟨s1,s2,s3,s7,s8,s10⟩;simp only [b02,b0f];exact J23 c31 _ _ s1 s2 s3 s7 s8 s10 hm2
        ·rw [b0q hc27] at hm2;apply b0b;intro K hK;simp only [go_sem];apply hK;simp only [go_sem];refine b0k (fun hc33=>?_) (fun hc33=>?_)
         ·rw [b0r hc33] at hm2;refine b9y (fun t h=>t 1 = .fs 1 (List.map b0t c)/\t 2=B inside/\t 3 = .fp (vM m) 0/\t 7=I i_7/\t 8=I k_8/\t 10=B ((inside && (b2b x21.Number 0 (wr ((List.length m.States:Int) - 1)))) && (decide (x21.Value=0)))) (fun K hK=>?_) ?_
          ·simp only [go_sem,s2,s3];refine b0k (fun hg34=>?_) (fun hg34=>?_)
           ·simp only [go_sem,s2,s3,hg34];refine b01 (b4p x21.Number 0 (wr ((List.length m.States:Int) - 1))) ?_;simp only [go_sem,s2,s3,hg34];refine b0k (fun hg35=>?_) (fun hg35=>?_)
            ·simp only [go_sem,s2,s3,hg34,hg35];exact hK _ _ ⟨s1,s2,s3,s7,s8,(by first|(simp only [go_sem,hg34,hg35,lA9,mA9]; done)|rfl)⟩
            ·simp only [go_sem,s2,s3,hg34,hg35];exact hK _ _ ⟨s1,s2,s3,s7,s8,(by first|(simp only [go_sem,hg34,hg35,lA9,mA9]; done)|rfl)⟩
           ·simp only [go_sem,s2,s3,hg34];exact hK _ _ ⟨s1,s2,s3,s7,s8,(by first|(simp only [go_sem,hg34,lA9,mA9]; done)|rfl)⟩
          ·rintro t h ⟨s1,s2,s3,s7,s8,s10⟩;simp only [b02,b0f];exact J23 ((inside && (b2b x21.Number 0 (wr ((List.length m.States:Int) - 1)))) && (decide (x21.Value=0))) _ _ s1 s2 s3 s7 s8 s10 hm2
         ·rw [b0q hc33] at hm2;apply b0b;intro K hK;simp only [go_sem];apply hK;simp only [go_sem];refine b0k (fun hc36=>?_) (fun hc36=>?_)
          ·rw [b0r hc36] at hm2;refine b9y (fun t h=>t 1 = .fs 1 (List.map b0t c)/\t 2=B inside/\t 3 = .fp (vM m) 0/\t 7=I i_7/\t 8=I k_8/\t 10=B ((b2b x21.Number 0 (wr ((List.length m.Outputs:Int) - 1))) && (decide (x21.Value=0)))) (fun K hK=>?_) ?_
           ·simp only [go_sem,s3];refine b01 (b4p x21.Number 0 (wr ((List.length m.Outputs:Int) - 1))) ?_;simp only [go_sem,s3];refine b0k (fun hg37=>?_) (fun hg37=>?_)
            ·simp only [go_sem,s3,hg37];exact hK _ _ ⟨s1,s2,s3,s7,s8,(by first|(simp only [go_sem,hg37,lA9,mA9]; done)|rfl)⟩
            ·simp only [go_sem,s3,hg37];exact hK _ _ ⟨s1,s2,s3,s7,s8,(by first|(simp only [go_sem,hg37,lA9,mA9]; done)|rfl)⟩
           ·rintro t h ⟨s1,s2,s3,s7,s8,s10⟩;simp only [b02,b0f];exact J23 ((b2b x21.Number 0 (wr ((List.length m.Outputs:Int) - 1))) && (decide (x21.Value=0))) _ _ s1 s2 s3 s7 s8 s10 hm2
          ·rw [b0q hc36] at hm2;simp only [b0s,b02,b0f];exact J23 false _ _ s1 s2 s3 s7 s8 va9 hm2
      ·rw [b0q hc18] at hm2;simp only [b09,b1b,b1a,c0s,b02,b0f,Nat.reduceEqDiff,nF9];obtain rfl:=sI9 hm2;obtain rfl:=hb14 _ rfl
       try dsimp only at hm1
       exact J9  _ _ s1 s2 s3 s7 hm1
   ·rw [b0q hc7] at hm1;simp only [b09,b1b,b1a,c0s,b02,b0f,Nat.reduceEqDiff,nF9];obtain rfl:=sI9 hm1;obtain rfl:=hb5 _ rfl
    try dsimp only at hm0
    exact J4  _ _  hm0
theorem b4p (hf:Has O "newel/newelref04.from" x_r04_from):c5r O:=by
 intro n low high;generalize hm0:b2b n low high=r;unfold b2b at hm0;refine b1i hf rfl (b0a (b0e _) (b0a (b0e _) (b0a (b0e _) b0j))) (b0e _) ?_;refine b1c (fun t h=>t 0=I n/\t 1=I low/\t 2=I high) ⟨rfl,rfl,rfl⟩ fun t h ⟨s0,s1,s2⟩=>?_;simp only [x_r04_from];apply b0b;intro K hK;simp only [go_sem];apply hK;refine b2p (fun t h=>t 6=B ((decide (low<=n)) && (decide (n<=high)))) (fun K hK=>?_) ?_
 ·simp only [go_sem,s0,s1,s2];refine b0k (fun hg1=>?_) (fun hg1=>?_)
  ·simp only [go_sem,s0,s1,s2,hg1];exact hK _ _ (by first|(simp only [go_sem,hg1,lA9,mA9]; done)|rfl)
  ·simp only [go_sem,s0,s1,s2,hg1];exact hK _ _ (by first|(simp only [go_sem,hg1,lA9,mA9]; done)|rfl)
 ·rintro t h s6;simp only [b0x,b1p,b2e,b0y];obtain rfl:=hm0;exact b04 (by simp only [go_sem,s6,lA9,mA9]) (b0e _)
theorem d3f (hf:Has O "newel/newelref04.names" x_r04_names):d0i O:=by
 intro m r hm0;unfold c4l at hm0;refine b1i hf rfl (b0a (fM _) b0j) (b0c fun a _=>b0z a) ?_;refine b1c (fun t h=>t 0 = .agg (vM m)) rfl fun t h s0=>?_;simp only [x_r04_names];apply b0b;intro K hK;simp only [go_sem,s0];apply hK;obtain ⟨l3,h_l3,hm0⟩:=b0g hm0;obtain ⟨l4,h_l4,hm0⟩:=b0g hm0;apply b0b;intro K hK;simp only [go_sem];refine b3a (f:=eS) (l:=([])) (m:=m.Inputs) ?_ ?_ ?_ ?_ h_l3 ?_
 ·exact (b2v vb9 vb9 ve9)
 ·exact b7j
 ·exact b7i
 ·exact (fun e=>by cases e)
 simp only [go_sem];refine b3a (f:=eS) (l:=l3) (m:=m.Outputs) ?_ ?_ ?_ ?_ h_l4 ?_
 ·exact (b2v vb9 vb9 ve9)
 ·exact b7j
 ·exact b7i
 ·exact (fun e=>by cases e)
 simp only [go_sem];apply hK;refine b0v ?_;apply b0b;intro K hK;simp only [go_sem];apply hK;refine b0i fun K5 hK5=>?_
 have J6:∀ (l_3:List ByteArray) (i3:Nat) (t:Slots) (h:Heap),t 1 = .fp (vM m) 0->t 3 = .rs i3 0 (List.length l_3)->h.ob i3=some (1,List.map eS l_3)->i3<h.nx->c8u m l_3=some r->K5 t h:=by
  intro l_3 i3 t h s1 s3 Qa Q1 hm0;refine hK5 _ _ ?_;unfold c8u at hm0;refine b0v ?_;apply b0b;intro K hK;simp only [go_sem,Q1];apply hK;refine b0i fun K7 hK7=>?_
  have J8:∀ (l_3_1:List ByteArray) (i3_1:Nat) (t:Slots) (h:Heap),t 3 = .rs i3_1 0 (List.length l_3_1)->h.ob i3_1=some (1,List.map eS l_3_1)->i3_1<h.nx->c8v l_3_1=some r->K7 t h:=by
   intro l_3_1 i3_1 t h s3 Qa Q1 hm0;refine hK7 _ _ ?_;unfold c8v at hm0;apply b0b;intro K hK;simp only [go_sem,s3,Qa,Q1];apply hK;simp only [b0x,b1p,b2e,b0y];obtain rfl:=sI9 hm0;exact b8e (v:=.rs i3_1 0 (List.length l_3_1)) (by simp only [go_sem,Qa,Q1,lA9,mA9]) (b29 (f:=eS) (l:=l_3_1) (id:=i3_1) (by simp only [go_sem,Qa,Q1,lA9,mA9]) vg9 b0z c3u)
  simp only [b0u];obtain ⟨b9,hl9,hm0⟩:=b0g hm0;refine b1j hl9 (fun|(l_3_1,i_5),t,h=>∃ i3_1:Nat,t 1 = .fp (vM m) 0/\t 3 = .rs i3_1 0 (List.length l_3_1)/\t 5=I i_5/\h.ob i3_1=some (1,List.map eS l_3_1)/\i3_1<h.nx) ?_ ?_
  ·exact ⟨i3,s1,(by first|exact s3|simp only [go_sem,s3,lA9,mA9]),va9,Qa,Q1⟩
  ·rintro ⟨l_3_1,i_5⟩ o t h ⟨i3_1,s1,s3,s5,Qa,Q1⟩ hm1 hb9;simp only [c8s] at hm1;rw [g43];refine b0v ?_;apply b0b;intro K hK;simp only [go_sem,s1,s5,Q1];apply hK;refine b0i fun K10 hK10=>?_;simp only [go_sem];refine b0k (fun hc11=>?_) (fun hc11=>?_)
   ·rw [b0r hc11] at hm1;simp only [b0s,b02,b0f];refine hK10 _ _ ?_;refine b0i fun K12 hK12=>?_;simp only [b0u];obtain ⟨x15,h_x15,hm1⟩:=b0g hm1;have h_x150:=b05 h_x15;have h_x151:=b06 h_x15;obtain ⟨l16,h_l16,hm1⟩:=b0g hm1;apply b03;intro K hK;simp only [go_sem,s1,s3,s5,Qa,Q1,b08 h_x15,b3n h_x15,h_x150,h_x151];refine b3a (f:=eS) (l:=l_3_1) (m:=([x15.Name])) ?_ ?_ ?_ ?_ h_l16 ?_
    ·exact (b2v (by simp only [go_sem,Qa,Q1,lA9,mA9]) (by simp only [go_sem,Qa,Q1,lA9,mA9]) (by simp only [go_sem,Q1]))
    ·exact (b4t (by simp only [go_sem,Qa,Q1,lA9,mA9]) (by simp only [go_sem,Qa,Q1,lA9,mA9]))
    ·exact (b4r vf9)
    ·exact (fun _=>by simp)
    simp only [go_sem,s1,s3,s5,Qa,Q1,b08 h_x15,b3n h_x15,h_x150,h_x151];apply hK;simp only [b02,b0f];refine hK12 _ _ ?_;apply b03;intro K hK;simp only [go_sem,s5,Q1];apply hK;simp only [b02,b0f];obtain rfl:=sI9 hm1;refine ⟨_,rfl,?_⟩;exact ⟨(nxs h.nx),s1,(by first|(simp only [go_sem,s3,lA9,mA9]; done)|rfl),(by first|(simp only [go_sem,s5,lA9,mA9]; done)|rfl),(by simp only [go_sem,Q1,lA9,mA9]),ve9⟩
   ·rw [b0q hc11] at hm1;simp only [b09,b1b,b1a,c0s,b02,b0f,Nat.reduceEqDiff,nF9];obtain rfl:=sI9 hm1;obtain rfl:=hb9 _ rfl
    try dsimp only at hm0
    exact J8 l_3_1 i3_1 _ _ (by first|exact s3|simp only [go_sem,s3,lA9,mA9]) Qa Q1 hm0
 simp only [b0u];obtain ⟨b18,hl18,hm0⟩:=b0g hm0;refine b1j hl18 (fun|(l_3,i_4),t,h=>∃ i3:Nat,t 1 = .fp (vM m) 0/\t 3 = .rs i3 0 (List.length l_3)/\t 4=I i_4/\h.ob i3=some (1,List.map eS l_3)/\i3<h.nx) ?_ ?_
 ·exact ⟨(nxs (nxs h.nx)),va9,va9,va9,vb9,ve9⟩
 ·rintro ⟨l_3,i_4⟩ o t h ⟨i3,s1,s3,s4,Qa,Q1⟩ hm1 hb18;simp only [c8t] at hm1;rw [g44];refine b0v ?_;apply b0b;intro K hK;simp only [go_sem,s1,s4,Q1];apply hK;refine b0i fun K19 hK19=>?_;simp only [go_sem];refine b0k (fun hc20=>?_) (fun hc20=>?_)
  ·rw [b0r hc20] at hm1;simp only [b0s,b02,b0f];refine hK19 _ _ ?_;refine b0i fun K21 hK21=>?_;simp only [b0u];obtain ⟨x24,h_x24,hm1⟩:=b0g hm1;have h_x240:=b05 h_x24;have h_x241:=b06 h_x24;obtain ⟨l25,h_l25,hm1⟩:=b0g hm1;apply b03;intro K hK;simp only [go_sem,s1,s3,s4,Qa,Q1,b08 h_x24,b3n h_x24,h_x240,h_x241];refine b3a (f:=eS) (l:=l_3) (m:=([x24.Name])) ?_ ?_ ?_ ?_ h_l25 ?_
   ·exact (b2v (by simp only [go_sem,Qa,Q1,lA9,mA9]) (by simp only [go_sem,Qa,Q1,lA9,mA9]) (by simp only [go_sem,Q1]))
   ·exact (b4t (by simp only [go_sem,Qa,Q1,lA9,mA9]) (by simp only [go_sem,Qa,Q1,lA9,mA9]))
   ·exact (b4r vf9)
   ·exact (fun _=>by simp)
   simp only [go_sem,s1,s3,s4,Qa,Q1,b08 h_x24,b3n h_x24,h_x240,h_x241];apply hK;simp only [b02,b0f];refine hK21 _ _ ?_;apply b03;intro K hK;simp only [go_sem,s4,Q1];apply hK;simp only [b02,b0f];obtain rfl:=sI9 hm1;refine ⟨_,rfl,?_⟩;exact ⟨(nxs h.nx),s1,(by first|(simp only [go_sem,s3,lA9,mA9]; done)|rfl),(by first|(simp only [go_sem,s4,lA9,mA9]; done)|rfl),(by simp only [go_sem,Q1,lA9,mA9]),ve9⟩
  ·rw [b0q hc20] at hm1;simp only [b09,b1b,b1a,c0s,b02,b0f,Nat.reduceEqDiff,nF9];obtain rfl:=sI9 hm1;obtain rfl:=hb18 _ rfl
   try dsimp only at hm0
   exact J6 l_3 i3 _ _ s1 (by first|exact s3|simp only [go_sem,s3,lA9,mA9]) Qa Q1 hm0
theorem u0s (hf:Has O "newel/newelref10.CheckAccident" x_r10_CheckAccident) (c3j:c5l O) (s8v:u1m O):u1k O:=by
 intro a r hm0;unfold s9r at hm0;refine b1i hf rfl (b0a (fA _) b0j) (b0e _) ?_;refine b1c (fun t h=>t 0 = .agg (vA a)) rfl fun t h s0=>?_;simp only [x_r10_CheckAccident];apply b0b;intro K hK;simp only [go_sem,s0];apply hK;apply b0b;intro K hK;simp only [go_sem];apply hK;refine b0v ?_;apply b0b;intro K hK;simp only [go_sem];apply hK;refine b0i fun K1 hK1=>?_
 have J2:∀ (l_3:List (List (List Literal))) (i3:Nat) (t:Slots) (h:Heap),t 1 = .fp (vA a) 0->t 3 = .rs i3 0 (List.length l_3)->h.ob i3=some (1,List.map b4v l_3)->i3<h.nx->u11 a l_3=some r->K1 t h:=by
  intro l_3 i3 t h s1 s3 Qa Q1 hm0;refine hK1 _ _ ?_;unfold u11 at hm0;obtain ⟨y4,h_y4,hm0⟩:=b0g hm0;apply b0b;intro K hK;simp only [go_sem,s1,s3,Qa,Q1];refine b8l ?_ (c3j a.Machine l_3 _ h_y4) (.v _) ?_
  ·exact .cons (.refl _ (fM _)) (.cons (b29 (f:=b4v) (l:=l_3) (id:=i3) (by simp only [go_sem,Qa,Q1,lA9,mA9]) vg9 b97 c7o) (.nil))
  simp only [go_sem,s1,s3,Qa,Q1];apply hK;refine b0v ?_;apply b0b;intro K hK;simp only [go_sem,Q1];apply hK;refine b0i fun K5 hK5=>?_;simp only [go_sem];refine b0k (fun hc6=>?_) (fun hc6=>?_)
  ·rw [b0r hc6] at hm0;apply b0b;intro K hK;simp only [go_sem,Q1];apply hK;simp only [b0x,b1p,b2e,b0y];obtain rfl:=sI9 hm0;exact b04 (by simp only [go_sem,Qa,Q1,lA9,mA9]) (b0e _)
  ·rw [b0q hc6] at hm0;simp only [b0s,b02,b0f];refine hK5 _ _ ?_;refine b0v ?_;apply b0b;intro K hK;simp only [go_sem,s1,Q1];refine b01 (s8v a.Ticks 0 40) ?_;simp only [go_sem,s1,Q1];apply hK;refine b0i fun K7 hK7=>?_;simp only [go_sem];refine b0k (fun hc8=>?_) (fun hc8=>?_)
   ·rw [b0r hc8] at hm0;apply b0b;intro K hK;simp only [go_sem,Q1];apply hK;simp only [b0x,b1p,b2e,b0y];obtain rfl:=sI9 hm0;exact b04 (by simp only [go_sem,Qa,Q1,lA9,mA9]) (b0e _)
   ·rw [b0q hc8] at hm0;simp only [b0s,b02,b0f];refine hK7 _ _ ?_;refine b0v ?_;apply b0b;intro K hK;simp only [go_sem,s1,Q1];apply hK;refine b0i fun K9 hK9=>?_;simp only [go_sem];refine b0k (fun hc10=>?_) (fun hc10=>?_)
    ·rw [b0r hc10] at hm0;apply b0b;intro K hK;simp only [go_sem,Q1];apply hK;simp only [b0x,b1p,b2e,b0y];obtain rfl:=sI9 hm0;exact b04 (by simp only [go_sem,Qa,Q1,lA9,mA9]) (b0e _)
    ·rw [b0q hc10] at hm0;simp only [b0s,b02,b0f];refine hK9 _ _ ?_;refine b0v ?_;apply b0b;intro K hK;simp only [go_sem,Q1];apply hK;refine b0i fun K11 hK11=>?_
     have J12:∀ (t:Slots) (h:Heap),u30=some r->K11 t h:=by
      intro t h hm0;refine hK11 _ _ ?_;unfold u30 at hm0;apply b0b;intro K hK;simp only [go_sem];apply hK;simp only [b0x,b1p,b2e,b0y];obtain rfl:=sI9 hm0;exact b04 vb9 (b0e _)
     simp only [b0u];obtain ⟨b13,hl13,hm0⟩:=b0g hm0;refine b1j hl13 (fun|i_6,t,h=>t 1 = .fp (vA a) 0/\t 6=I i_6) ?_ ?_
     ·exact ⟨s1,va9⟩
     ·rintro i_6 o t h ⟨s1,s6⟩ hm1 hb13;simp only [u01] at hm1;rw [u5y];refine b0v ?_;apply b0b;intro K hK;simp only [go_sem,s1,s6];apply hK;refine b0i fun K14 hK14=>?_;simp only [go_sem];refine b0k (fun hc15=>?_) (fun hc15=>?_)
      ·rw [b0r hc15] at hm1;simp only [b0s,b02,b0f];refine hK14 _ _ ?_;refine b0i fun K16 hK16=>?_;simp only [b0u];obtain ⟨x18,h_x18,hm1⟩:=b0g hm1;have h_x180:=b05 h_x18;have h_x181:=b06 h_x18;apply b0b;intro K hK;simp only [go_sem,s1,s6,b08 h_x18,b3n h_x18,h_x180,h_x181];apply hK;refine b2p (fun t h=>t 1 = .fp (vA a) 0/\t 6=I i_6/\t 66=B ((!(b98 x18.From 0 x18.To)) || (decide (a.Ticks<=x18.To)))) (fun K hK=>?_) ?_
       ·simp only [go_sem,s1];refine b01 (s8v x18.From 0 x18.To) ?_;simp only [go_sem,s1];refine b0k (fun hg19=>?_) (fun hg19=>?_)
        ·simp only [go_sem,s1,hg19];exact hK _ _ ⟨s1,s6,(by first|(simp only [go_sem,hg19,lA9,mA9]; done)|rfl)⟩
        ·simp only [go_sem,s1,hg19];exact hK _ _ ⟨s1,s6,(by first|(simp only [go_sem,hg19,lA9,mA9]; done)|rfl)⟩
       ·rintro t h ⟨s1,s6,s66⟩;simp only [go_sem,s66];refine b0k (fun hc20=>?_) (fun hc20=>?_)
        ·rw [b0r hc20] at hm1;apply b0b;intro K hK;simp only [go_sem];apply hK;simp only [b0x,b1p,b2e,b0y];obtain rfl:=sI9 hm1;obtain rfl:=hb13 _ rfl
         try dsimp only at hm0
         obtain rfl:=sI9 hm0;exact b04 vb9 (b0e _)
        ·rw [b0q hc20] at hm1;simp only [b0s,b02,b0f];refine hK16 _ _ ?_;apply b03;intro K hK;simp only [go_sem,s6];apply hK;simp only [b02,b0f];obtain rfl:=sI9 hm1;refine ⟨_,rfl,?_⟩;exact ⟨s1,(by first|(simp only [go_sem,s6,lA9,mA9]; done)|rfl)⟩
      ·rw [b0q hc15] at hm1;simp only [b09,b1b,b1a,c0s,b02,b0f,Nat.reduceEqDiff,nF9];obtain rfl:=sI9 hm1;obtain rfl:=hb13 _ rfl
       try dsimp only at hm0
       exact J12  _ _  hm0
 simp only [b0u];obtain ⟨b22,hl22,hm0⟩:=b0g hm0;refine b1j hl22 (fun|(l_3,i_4),t,h=>∃ i3:Nat,t 1 = .fp (vA a) 0/\t 3 = .rs i3 0 (List.length l_3)/\t 4=I i_4/\h.ob i3=some (1,List.map b4v l_3)/\i3<h.nx) ?_ ?_
 ·exact ⟨h.nx,va9,va9,va9,vb9,ve9⟩
 ·rintro ⟨l_3,i_4⟩ o t h ⟨i3,s1,s3,s4,Qa,Q1⟩ hm1 hb22;simp only [s9s] at hm1;rw [u5z];refine b0v ?_;apply b0b;intro K hK;simp only [go_sem,s1,s4,Q1];apply hK;refine b0i fun K23 hK23=>?_;simp only [go_sem];refine b0k (fun hc24=>?_) (fun hc24=>?_)
  ·rw [b0r hc24] at hm1;simp only [b0s,b02,b0f];refine hK23 _ _ ?_;refine b0i fun K25 hK25=>?_;simp only [b0u];obtain ⟨x28,h_x28,hm1⟩:=b0g hm1;have h_x280:=b05 h_x28;have h_x281:=b06 h_x28;obtain ⟨l29,h_l29,hm1⟩:=b0g hm1;apply b03;intro K hK;simp only [go_sem,s1,s3,s4,Qa,Q1,b08 h_x28,b3n h_x28,h_x280,h_x281];refine b3a (f:=b4v) (l:=l_3) (m:=([x28.Cond])) ?_ ?_ ?_ ?_ h_l29 ?_
   ·exact (b2v (by simp only [go_sem,Qa,Q1,lA9,mA9]) (by simp only [go_sem,Qa,Q1,lA9,mA9]) (by simp only [go_sem,Q1]))
   ·exact (b4t (by simp only [go_sem,Qa,Q1,lA9,mA9]) (by simp only [go_sem,Qa,Q1,lA9,mA9]))
   ·exact (b4r vf9)
   ·exact (fun _=>by simp)
   simp only [go_sem,s1,s3,s4,Qa,Q1,b08 h_x28,b3n h_x28,h_x280,h_x281];apply hK;simp only [b02,b0f];refine hK25 _ _ ?_;apply b03;intro K hK;simp only [go_sem,s4,Q1];apply hK;simp only [b02,b0f];obtain rfl:=sI9 hm1;refine ⟨_,rfl,?_⟩;exact ⟨(nxs h.nx),s1,(by first|(simp only [go_sem,s3,lA9,mA9]; done)|rfl),(by first|(simp only [go_sem,s4,lA9,mA9]; done)|rfl),(by simp only [go_sem,Q1,lA9,mA9]),ve9⟩
  ·rw [b0q hc24] at hm1;simp only [b09,b1b,b1a,c0s,b02,b0f,Nat.reduceEqDiff,nF9];obtain rfl:=sI9 hm1;obtain rfl:=hb22 _ rfl
   try dsimp only at hm0
   exact J2 l_3 i3 _ _ s1 (by first|exact s3|simp only [go_sem,s3,lA9,mA9]) Qa Q1 hm0
theorem u3t (hf:Has O "newel/newelref10.IsTheory" x_r10_IsTheory) (s8v:u1m O):u2s O:=by
 intro a t_;generalize hm0:l59 a t_=r;unfold l59 at hm0;refine b1i hf rfl (b0a (fA _) (b0a (.agg _ (b0a (b0e _) (b0a (b0e _) (b0a (b0e _) b0j)))) b0j)) (b0e _) ?_;refine b1c (fun t h=>t 0 = .agg (vA a)/\t 1 = .agg [I t_.Input,I t_.Value,I t_.From]) ⟨rfl,rfl⟩ fun t h ⟨s0,s1⟩=>?_;simp only [x_r10_IsTheory];apply b0b;intro K hK;simp only [go_sem,s0,s1];apply hK;refine b0v ?_;apply b0b;intro K hK;simp only [go_sem];apply hK;refine b0i fun K1 hK1=>?_;simp only [go_sem];refine b0k (fun hc2=>?_) (fun hc2=>?_)
 ·rw [b0r hc2] at hm0;refine b2p (fun t h=>t 4=B ((decide (t_.Value=0)) && (decide (t_.From=0)))) (fun K hK=>?_) ?_
  ·simp only [go_sem];refine b0k (fun hg3=>?_) (fun hg3=>?_)
   ·simp only [go_sem,hg3];exact hK _ _ (by first|(simp only [go_sem,hg3,lA9,mA9]; done)|rfl)
   ·simp only [go_sem,hg3];exact hK _ _ (by first|(simp only [go_sem,hg3,lA9,mA9]; done)|rfl)
  ·rintro t h s4;simp only [b0x,b1p,b2e,b0y];obtain rfl:=hm0;exact b04 (by simp only [go_sem,s4,lA9,mA9]) (b0e _)
 ·rw [b0q hc2] at hm0;simp only [b0s,b02,b0f];refine hK1 _ _ ?_;refine b2p (fun t h=>t 4=B (((b98 t_.Input 0 (wr ((List.length a.Machine.Inputs:Int) - 1))) && (b98 t_.Value 0 1)) && (b98 t_.From 0 (wr (a.Ticks - 1))))) (fun K hK=>?_) ?_
  ·simp only [go_sem];refine b01 (s8v t_.Input 0 (wr ((List.length a.Machine.Inputs:Int) - 1))) ?_;simp only [go_sem];refine b0k (fun hg4=>?_) (fun hg4=>?_)
   ·simp only [go_sem,hg4];refine b01 (s8v t_.Value 0 1) ?_;simp only [go_sem,hg4];refine b0k (fun hg5=>?_) (fun hg5=>?_)
    ·simp only [go_sem,hg4,hg5];refine b01 (s8v t_.From 0 (wr (a.Ticks - 1))) ?_;simp only [go_sem,hg4,hg5];exact hK _ _ (by first|(simp only [go_sem,hg4,hg5,lA9,mA9]; done)|rfl)
    ·simp only [go_sem,hg4,hg5];exact hK _ _ (by first|(simp only [go_sem,hg4,hg5,lA9,mA9]; done)|rfl)
   ·simp only [go_sem,hg4];exact hK _ _ (by first|(simp only [go_sem,hg4,lA9,mA9]; done)|rfl)
  ·rintro t h s4;simp only [b0x,b1p,b2e,b0y];obtain rfl:=hm0;exact b04 (by simp only [go_sem,s4,lA9,mA9]) (b0e _)
theorem s8v (hf:Has O "newel/newelref10.from" x_r10_from):u1m O:=by
 intro n low high;generalize hm0:b98 n low high=r;unfold b98 at hm0;refine b1i hf rfl (b0a (b0e _) (b0a (b0e _) (b0a (b0e _) b0j))) (b0e _) ?_;refine b1c (fun t h=>t 0=I n/\t 1=I low/\t 2=I high) ⟨rfl,rfl,rfl⟩ fun t h ⟨s0,s1,s2⟩=>?_;simp only [x_r10_from];apply b0b;intro K hK;simp only [go_sem];apply hK;refine b2p (fun t h=>t 6=B ((decide (low<=n)) && (decide (n<=high)))) (fun K hK=>?_) ?_
 ·simp only [go_sem,s0,s1,s2];refine b0k (fun hg1=>?_) (fun hg1=>?_)
  ·simp only [go_sem,s0,s1,s2,hg1];exact hK _ _ (by first|(simp only [go_sem,hg1,lA9,mA9]; done)|rfl)
  ·simp only [go_sem,s0,s1,s2,hg1];exact hK _ _ (by first|(simp only [go_sem,hg1,lA9,mA9]; done)|rfl)
 ·rintro t h s6;simp only [b0x,b1p,b2e,b0y];obtain rfl:=hm0;exact b04 (by simp only [go_sem,s6,lA9,mA9]) (b0e _)
theorem c3p (hf:Has O "newel/situation.Asked" x_situation_Asked) (b8n:c1o O) (d3g:d0j O):c5t O:=by
 intro m c r hm0;unfold c1h at hm0;refine b1i hf rfl (b0a (fM _) (b0a (b0c fun a _=>b2j a) b0j)) (b0e _) ?_;refine b1c (fun t h=>t 0 = .agg (vM m)/\t 1 = .fs 1 (List.map b0t c)) ⟨rfl,rfl⟩ fun t h ⟨s0,s1⟩=>?_;simp only [x_situation_Asked];apply b0b;intro K hK;simp only [go_sem,s0];apply hK;refine b0v ?_;apply b0b;intro K hK;simp only [go_sem,s1];apply hK;refine b0i fun K1 hK1=>?_;simp only [go_sem];refine b0k (fun hc2=>?_) (fun hc2=>?_)
 ·rw [b0r hc2] at hm0;apply b0b;intro K hK;simp only [go_sem];apply hK;simp only [b0x,b1p,b2e,b0y];obtain rfl:=sI9 hm0;exact b04 vb9 (b0e _)
 ·rw [b0q hc2] at hm0;simp only [b0s,b02,b0f];refine hK1 _ _ ?_;refine b0v ?_;apply b0b;intro K hK;simp only [go_sem,s1];apply hK;refine b0i fun K3 hK3=>?_
  have J4:∀ (t:Slots) (h:Heap),d46=some r->K3 t h:=by
   intro t h hm0;refine hK3 _ _ ?_;unfold d46 at hm0;apply b0b;intro K hK;simp only [go_sem];apply hK;simp only [b0x,b1p,b2e,b0y];obtain rfl:=sI9 hm0;exact b04 vb9 (b0e _)
  simp only [b0u];obtain ⟨b5,hl5,hm0⟩:=b0g hm0;refine b1j hl5 (fun|x_12,t,h=>t 2 = .fp (vM m) 0/\t 10 = .fs 1 (List.map b0t c)/\t 11=I (List.length c:Int)/\t 12=I x_12) ?_ ?_
  ·exact ⟨va9,va9,va9,va9⟩
  ·rintro x_12 o t h ⟨s2,s10,s11,s12⟩ hm1 hb5;simp only [c4u] at hm1;rw [g45];apply b0b;intro K hK;simp only [go_sem,s11,s12];apply hK;refine b0i fun K6 hK6=>?_;simp only [go_sem];refine b0k (fun hc7=>?_) (fun hc7=>?_)
   ·rw [b0r hc7] at hm1;simp only [b0s,b02,b0f];refine hK6 _ _ ?_;refine b0i fun K8 hK8=>?_;simp only [b0u];obtain ⟨x10,h_x10,hm1⟩:=b0g hm1;have h_x100:=b05 h_x10;have h_x101:=b06 h_x10;apply b0b;intro K hK;simp only [go_sem,s10,s12,b08 h_x10,b3n h_x10,h_x100,h_x101];apply hK;obtain ⟨c16,h_c16,hm1⟩:=b0g hm1;refine b2p (fun t h=>t 2 = .fp (vM m) 0/\t 10 = .fs 1 (List.map b0t c)/\t 11=I (List.length c:Int)/\t 12=I x_12/\t 23=B c16) (fun K hK=>?_) ?_
    ·simp only [go_sem,s2];refine b0k (fun hg17=>?_) (fun hg17=>?_)
     ·simp only [hg17,Bool.not_true,Bool.not_false,eq_self,if_true,if_false,Bool.true_or,Bool.or_true,Bool.false_or,Bool.or_false,Bool.true_and,Bool.and_true,Bool.false_and,Bool.and_false,fT9] at h_c16;obtain rfl:=sI9 h_c16;simp only [go_sem,s2,hg17];exact hK _ _ ⟨s2,s10,s11,s12,(by first|(simp only [go_sem,hg17,lA9,mA9]; done)|rfl)⟩
     ·simp only [hg17,Bool.not_true,Bool.not_false,eq_self,if_true,if_false,Bool.true_or,Bool.or_true,Bool.false_or,Bool.or_false,Bool.true_and,Bool.and_true,Bool.false_and,Bool.and_false,fT9] at h_c16;obtain ⟨y15,h_y15,h_c16⟩:=b0g h_c16;obtain rfl:=sI9 h_c16;simp only [go_sem,s2,hg17];refine b01 (b8n x10 "newel/situation.Asked$1" [] [.fp (vM m) 0] (fun z14=>b82 z14 m) (.fn _ _ _ b0j (b0a (.fp _ _ (b0a (b0c fun a _=>b0z a) (b0a (b0c fun a _=>b0z a) (b0a (b0c fun a _=>b1q a) (b0a (b0c fun a _=>b1s a) (b0a (b0c fun a _=>b1r a) b0j)))))) b0j)) (fun z0 y hz=>d3g z0 m y hz) _ h_y15) ?_;simp only [go_sem,s2,hg17];exact hK _ _ ⟨s2,s10,s11,s12,(by first|(simp only [go_sem,hg17,lA9,mA9]; done)|rfl)⟩
    ·rintro t h ⟨s2,s10,s11,s12,s23⟩;simp only [go_sem,s23];refine b0k (fun hc18=>?_) (fun hc18=>?_)
     ·rw [b0r hc18] at hm1;apply b0b;intro K hK;simp only [go_sem];apply hK;simp only [b0x,b1p,b2e,b0y];obtain rfl:=sI9 hm1;obtain rfl:=hb5 _ rfl
      try dsimp only at hm0
      obtain rfl:=sI9 hm0;exact b04 vb9 (b0e _)
     ·rw [b0q hc18] at hm1;simp only [b0s,b02,b0f];refine hK8 _ _ ?_;apply b03;intro K hK;simp only [go_sem,s12];apply hK;simp only [b02,b0f];obtain rfl:=sI9 hm1;refine ⟨_,rfl,?_⟩;exact ⟨s2,s10,s11,(by first|(simp only [go_sem,s12,lA9,mA9]; done)|rfl)⟩
   ·rw [b0q hc7] at hm1;simp only [b09,b1b,b1a,c0s,b02,b0f,Nat.reduceEqDiff,nF9];obtain rfl:=sI9 hm1;obtain rfl:=hb5 _ rfl
    try dsimp only at hm0
    exact J4  _ _  hm0
theorem d3g (hf:Has O "newel/situation.Asked$1" x_situation_AskedD1) (d3l:d0o O):d0j O:=by
 intro x c0 r hm0;unfold b82 at hm0;refine b1i hf rfl (b0a (.agg _ (b0a (b0e _) (b0a (b0e _) (b0a (b0e _) (b0a (b0e _) b0j))))) (b0a (.fp _ _ (b0a (b0c fun a _=>b0z a) (b0a (b0c fun a _=>b0z a) (b0a (b0c fun a _=>b1q a) (b0a (b0c fun a _=>b1s a) (b0a (b0c fun a _=>b1r a) b0j)))))) b0j)) (b0e _) ?_;refine b1c (fun t h=>t 0 = .agg [I x.Kind,I x.Number,I x.Value,B x.Not]/\t 1 = .fp (vM c0) 0) ⟨rfl,rfl⟩ fun t h ⟨s0,s1⟩=>?_;simp only [x_situation_AskedD1];apply b0b;intro K hK;simp only [go_sem,s0];apply hK;obtain ⟨y2,h_y2,hm0⟩:=b0g hm0;apply b0b;intro K hK;simp only [go_sem,s1];refine b01 (d3l c0 x _ h_y2) ?_;simp only [go_sem,s1];apply hK;simp only [b0x,b1p,b2e,b0y];obtain rfl:=sI9 hm0;exact b04 vb9 (b0e _)
theorem d3i (hf:Has O "newel/situation.Check$1" x_situation_CheckD1):d0l O:=by
 intro x;generalize hm0:b7s x=r;unfold b7s at hm0;refine b1i hf rfl (b0a (.agg _ (b0a (b0e _) (b0a (b0e _) (b0a (b0e _) (b0a (b0e _) b0j))))) b0j) (b0e _) ?_;refine b1c (fun t h=>t 0 = .agg [I x.Kind,I x.Number,I x.Value,B x.Not]) rfl fun t h s0=>?_;simp only [x_situation_CheckD1];apply b0b;intro K hK;simp only [go_sem,s0];apply hK;apply b0b;intro K hK;simp only [go_sem];apply hK;simp only [b0x,b1p,b2e,b0y];obtain rfl:=hm0;exact b04 vb9 (b0e _)
theorem d3n (d3o:d0r O) (d3p:d0s O):d0q O:=by
 intro m r hm0;unfold c45 at hm0;split at hm0
 ·exact d3o m r hm0
 ·exact d3p m r hm0
theorem b4q (hf:Has O "newel/situation.within" x_situation_within):c5u O:=by
 intro n low high;generalize hm0:b2q n low high=r;unfold b2q at hm0;refine b1i hf rfl (b0a (b0e _) (b0a (b0e _) (b0a (b0e _) b0j))) (b0e _) ?_;refine b1c (fun t h=>t 0=I n/\t 1=I low/\t 2=I high) ⟨rfl,rfl,rfl⟩ fun t h ⟨s0,s1,s2⟩=>?_;simp only [x_situation_within];apply b0b;intro K hK;simp only [go_sem];apply hK;refine b2p (fun t h=>t 6=B ((decide (low<=n)) && (decide (n<=high)))) (fun K hK=>?_) ?_
 ·simp only [go_sem,s0,s1,s2];refine b0k (fun hg1=>?_) (fun hg1=>?_)
  ·simp only [go_sem,s0,s1,s2,hg1];exact hK _ _ (by first|(simp only [go_sem,hg1,lA9,mA9]; done)|rfl)
  ·simp only [go_sem,s0,s1,s2,hg1];exact hK _ _ (by first|(simp only [go_sem,hg1,lA9,mA9]; done)|rfl)
 ·rintro t h s6;simp only [b0x,b1p,b2e,b0y];obtain rfl:=hm0;exact b04 (by simp only [go_sem,s6,lA9,mA9]) (b0e _)
end Go.Nw.UM
