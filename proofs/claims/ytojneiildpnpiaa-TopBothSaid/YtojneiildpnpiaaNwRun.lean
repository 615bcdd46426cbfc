/- Closed calls, computed: an interpreter of the abstract machine, and that it is right. -/
import Derived.Test.YtojneiildpnpiaaNwVcg
set_option linter.all false
namespace Go.Nw
def b1l (l:List (Option Ob)):Heap:={ ob:=fun i=>(l[i]?).join,us:=fun k=>k<l.length,nx:=l.length }
inductive TR where
 | e
 | n (l:TR) (x:AV) (r:TR)
def TR.get:TR->Nat->AV
 | .e,_=>.v (.tuple #[])
 | .n l x r,i=>if i=0 then x else if i % 2=1 then l.get (i / 2) else r.get (i / 2 - 1)
structure RS where
 t : TR
 ob : List (Option Ob)
def RS.st (s:RS):St:={ t:=fun i=>s.t.get i,h:=b1l s.ob }
theorem d8i:b1l []=Heap.empty:=by
 unfold b1l Heap.empty
 congr 1
 funext k; simp
def fN {β:Type} (n:Nat) (k:Nat->β):β:=match n with|0=>k 0|m+1=>k (m+1)
def fI {β:Type} (n:Int) (k:Int->β):β:=match n with | .ofNat m=>fN m fun m=>k (.ofNat m) | .negSucc m=>fN m fun m=>k (.negSucc m)
def fV {β:Type} (x:Value) (k:Value->β):β:=match x with
 | .int kd n=>fI n fun n=>k (.int kd n)
 | .bool b=>(match b with|true=>k (.bool true)|false=>k (.bool false))
 | x=>k x
def fL {α β:Type} (f:α->(α->β)->β):List α->(List α->β)->β
 | [],k=>k []
 | a :: l,k=>f a fun a=>fL f l fun l=>k (a :: l)
def fA {β:Type}:Nat->AV->(AV->β)->β
 | 0,a,k=>k a
 | n+1,a,k=>match a with
  | .v x=>fV x fun x=>k (.v x)
  | .rs id lo len=>fN id fun id=>fN lo fun lo=>fN len fun len=>k (.rs id lo len)
  | .rp id i off=>fN id fun id=>fN i fun i=>fN off fun off=>k (.rp id i off)
  | .mp id=>fN id fun id=>k (.mp id)
  | .agg cs=>fL (fA n) cs fun cs=>k (.agg cs)
  | .tup cs=>fL (fA n) cs fun cs=>k (.tup cs)
  | .fs sz es=>fL (fL (fA n)) es fun es=>k (.fs sz es)
  | a=>k a
theorem p8o {β:Type} {n:Nat} {k:Nat->β}:fN n k=k n:=by cases n <;> rfl
theorem j0x {β:Type} {n:Int} {k:Int->β}:fI n k=k n:=by cases n <;> simp [fI,p8o]
theorem N1h {β:Type} {n:Value} {k:Value->β}:fV n k=k n:=by
 cases n <;> try rfl
 ·rename_i b; cases b <;> rfl
 ·simp [fV,j0x]
theorem b5o {α β:Type} {f:α->(α->β)->β} (h:∀ a k,f a k=k a):∀ (l:List α) (k:List α->β),fL f l k=k l
 | [],_=>rfl
 | a :: l,k=>by simp only [fL,h,b5o h l]
theorem b92 {β:Type}:∀ (n:Nat) (a:AV) (k:AV->β),fA n a k=k a
 | 0,_,_=>rfl
 | n+1,a,k=>by cases a <;> simp only [fA,N1h,p8o,b5o (b92 n),b5o (b5o (b92 n))]
def b6s {β:Type} (x:AV):Nat->TR->Nat->(TR->Option β)->Option β
 | 0,_,_,_=>none
 | f+1,.e,i,k=>if i=0 then k (.n .e x .e) else if i % 2=1 then b6s x f .e (i / 2) fun l=>k (.n l (.v (.tuple #[])) .e) else b6s x f .e (i / 2 - 1) fun r=>k (.n .e (.v (.tuple #[])) r)
 | f+1,.n l y r,i,k=>if i=0 then k (.n l x r) else if i % 2=1 then b6s x f l (i / 2) fun l=>k (.n l y r) else b6s x f r (i / 2 - 1) fun r=>k (.n l y r)
theorem c81 {β:Type} (x:AV):∀ (f:Nat) (t:TR) (i:Nat) (k:TR->Option β) (y:β),b6s x f t i k=some y->∃ t',k t'=some y/\∀ j,t'.get j=if j=i then x else t.get j
 | 0,_,_,_,_,h=>by cases h
 | f+1,t,i,k,y,h=>by
  have main:∀ (l:TR) (z:AV) (r:TR),(∀ j,(TR.n l z r).get j=t.get j)->(if i=0 then k (.n l x r) else if i % 2=1 then b6s x f l (i / 2) fun l=>k (.n l z r) else b6s x f r (i / 2 - 1) fun r=>k (.n l z r))=some y->∃ t',k t'=some y/\∀ j,t'.get j=if j=i then x else t.get j:=by
   intro l z r hg h
   by_cases h0:i=0
   ·rw [if_pos h0] at h
    refine ⟨_,h,fun j=>?_⟩
    rw [<- hg j]
    by_cases hj:j=i
    ·subst hj; subst h0; simp [TR.get]
    ·rw [if_neg hj]; subst h0; simp [TR.get,hj]
   ·rw [if_neg h0] at h
    by_cases h1:i % 2=1
    ·rw [if_pos h1] at h
     obtain ⟨l',h2,h3⟩:=c81 x f l (i / 2) _ y h
     refine ⟨_,h2,fun j=>?_⟩
     rw [<- hg j]
     simp only [TR.get,h3]
     by_cases hj0:j=0
     ·have : ¬ j=i:=by omega
      subst hj0; simp only [if_true,this,if_false]
     ·by_cases hj1:j % 2=1
      ·by_cases hji:j=i
       ·subst hji; simp [hj0,hj1]
       ·have : ¬ j / 2=i / 2:=by omega
        simp [hj0,hj1,this,hji]
      ·have : ¬ j=i:=by omega
       simp [hj0,hj1,this]
    ·rw [if_neg h1] at h
     obtain ⟨r',h2,h3⟩:=c81 x f r (i / 2 - 1) _ y h
     refine ⟨_,h2,fun j=>?_⟩
     rw [<- hg j]
     simp only [TR.get,h3]
     by_cases hj0:j=0
     ·have : ¬ j=i:=by omega
      subst hj0; simp only [if_true,this,if_false]
     ·by_cases hj1:j % 2=1
      ·have : ¬ j=i:=by omega
       simp [hj0,hj1,this]
      ·by_cases hji:j=i
       ·subst hji; simp [hj0,hj1]
       ·have : ¬ j / 2 - 1=i / 2 - 1:=by omega
        simp [hj0,hj1,this,hji]
  cases t with
  | e=>exact main .e (.v (.tuple #[])) .e (fun j=>by simp [TR.get]) h
  | n l z r=>exact main l z r (fun _=>rfl) h
def c76 {β:Type} (l:TR) (d:Option Nat) (x:AV) (k:TR->Option β):Option β:=match d with|some d=>b6s x 12 l d k|none=>k l
theorem b7k {β:Type} {s:RS} {d:Option Nat} {x:AV} {k:TR->Option β} {y:β} (h:c76 s.t d x k=some y):∃ t',k t'=some y/\∀ ob,RS.st ⟨t',ob⟩={ t:=(s.st.put d x).t,h:=b1l ob }:=by
 cases d with
 | none=>exact ⟨s.t,h,fun ob=>rfl⟩
 | some d =>
  obtain ⟨t',h1,h2⟩:=c81 x 12 s.t d k y h
  refine ⟨t',h1,fun ob=>?_⟩
  unfold RS.st St.put St.set upd
  simp only [St.mk.injEq,and_true]
  funext i
  exact h2 i
def ofL:List AV->Nat->TR->Option TR
 | [],_,t=>some t
 | a :: l,i,t=>b6s a 12 t i fun t=>ofL l (i+1) t
theorem g17:∀ (l:List AV) (i:Nat) (t t':TR),ofL l i t=some t'->∀ j,t'.get j=if i<=j/\j<i+l.length then l.getD (j - i) (.v (.tuple #[])) else t.get j
 | [],i,t,t',h,j=>by
  cases h
  rw [if_neg (by intro h; have h1:=h.1; have h2:=h.2; simp only [List.length_nil] at h2; omega)]
 | a :: l,i,t,t',h,j=>by
  simp only [ofL] at h
  obtain ⟨t1,h1,h2⟩:=c81 a 12 t i _ t' h
  have := g17 l (i+1) t1 t' h1 j
  rw [this,h2 j]
  by_cases hj:j=i
  ·subst hj
   rw [if_neg (by omega),if_pos rfl,if_pos (by simp only [List.length_cons]; omega)]
   simp
  ·rw [if_neg hj]
   by_cases hr:i+1<=j/\j<i+1+l.length
   ·rw [if_pos hr,if_pos (by simp; omega)]
    rw [show j - i=(j - (i+1))+1 by omega,List.getD_cons_succ]
   ·rw [if_neg hr,if_neg (by simp; omega)]
theorem l2b {as:List AV} {t:TR} (h:ofL as 0 .e=some t) (ob:List (Option Ob)):RS.st ⟨t,ob⟩={ start as with h:=b1l ob }:=by
 unfold RS.st start
 simp only [St.mk.injEq,and_true]
 funext j
 rw [g17 as 0 .e t h j]
 by_cases hj:j<as.length
 ·rw [if_pos (by omega)]; rfl
 ·rw [if_neg (by omega),List.getD,List.getElem?_eq_none (by omega)]; rfl
def fS {α β:Type}:List α->(List α->β)->β
 | [],k=>k []
 | a :: l,k=>fS l fun l=>k (a :: l)
theorem b95 {α β:Type}:∀ (l:List α) (k:List α->β),fS l k=k l
 | [],_=>rfl
 | a :: l,k=>by simp only [fS,b95 l]
def fO {β:Type} (o:Option Ob) (k:Option Ob->β):β:=match o with
 | none=>k none
 | some (sz,es)=>fN sz fun sz=>fL (fL (fA 8)) es fun es=>k (some (sz,es))
theorem c2o {β:Type} {o:Option Ob} {k:Option Ob->β}:fO o k=k o:=by
 cases o with
 | none=>rfl
 | some o=>obtain ⟨sz,es⟩:=o; simp only [fO,p8o,b5o (b5o (b92 8))]
def b3l:Nat->AV->Bool
 | 0,_=>false
 | n+1,a=>match a with
  | .v _=>true
  | .agg cs | .tup cs=>cs.all (b3l n)
  | .fs _ es=>es.all fun e=>e.all (b3l n)
  | .fp cs _=>cs.all (b3l n)
  | .fn _ a b=>a.all (b3l n) && b.all (b3l n)
  | _=>false
theorem b4n:∀ (n:Nat) (a:AV),b3l n a=true->Frz a
 | 0,_,h=>by cases h
 | n+1,a,h=>by
  cases a with
  | v x=>exact .v x
  | agg cs=>exact .agg cs fun c hc=>b4n n c (List.all_eq_true.1 h c hc)
  | tup cs=>exact .tup cs fun c hc=>b4n n c (List.all_eq_true.1 h c hc)
  | fs sz es=>exact .fs sz es fun e he c hc=>b4n n c (List.all_eq_true.1 (List.all_eq_true.1 h e he) c hc)
  | fp cs off=>exact .fp cs off fun c hc=>b4n n c (List.all_eq_true.1 h c hc)
  | fn f as bs =>
   simp only [b3l,Bool.and_eq_true] at h
   exact .fn f as bs (fun c hc=>b4n n c (List.all_eq_true.1 h.1 c hc)) fun c hc=>b4n n c (List.all_eq_true.1 h.2 c hc)
  | rs=>cases h
  | rp=>cases h
  | mp=>cases h
  | dead=>cases h
def c70:Nat->AV->Bool
 | 0,_=>false
 | n+1,a=>match a with
  | .v _ | .rs .. | .rp ..=>true
  | .agg cs | .tup cs=>cs.all (c70 n)
  | _=>false
theorem c72:∀ (n:Nat) (a:AV),c70 n a=true->Own a
 | 0,_,h=>by cases h
 | n+1,a,h=>by
  cases a with
  | v x=>exact .v x
  | agg cs=>exact .agg cs fun c hc=>c72 n c (List.all_eq_true.1 h c hc)
  | tup cs=>exact .tup cs fun c hc=>c72 n c (List.all_eq_true.1 h c hc)
  | rs=>exact .rs ..
  | rp=>exact .rp ..
  | _=>cases h
theorem b5s {α β:Type} {f:α->Option β}:∀ {l:List α} {r:List β},l.mapM f=some r->l.length=r.length/\∀ (i:Nat) a b,l[i]?=some a->r[i]?=some b->f a=some b
 | [],r,h=>by
  cases h
  exact ⟨rfl,fun i a b h=>by simp at h⟩
 | a :: l,r,h=>by
  rw [List.mapM_cons] at h
  simp only [Option.bind_eq_bind,bE9,Option.pure_def] at h
  obtain ⟨b,hb,r',hr,h⟩:=h
  cases h
  obtain ⟨h1,h2⟩:=b5s hr
  refine ⟨by simp [h1],fun i x y hx hy=>?_⟩
  cases i with
  | zero=>simp at hx hy; subst hx hy; exact hb
  | succ i=>simp at hx hy; exact h2 i x y hx hy
def fzR (ob:List (Option Ob)):Nat->AV->Option AV
 | 0,_=>none
 | n+1,a=>match a with
  | .v x=>some (.v x)
  | .agg cs=>(cs.mapM (fzR ob n)).map .agg
  | .tup cs=>(cs.mapM (fzR ob n)).map .tup
  | .fn f as bs=>(as.mapM (fzR ob n)).bind fun as=>(bs.mapM (fzR ob n)).map fun bs=>.fn f as bs
  | .rs id lo len=>((ob[id]?).join).bind fun o=>if lo+len<=o.2.length then (((o.2.drop lo).take len).mapM fun (e:List AV)=>e.mapM (fzR ob n)).bind fun (ds:List (List AV))=>if ds.all (fun d=>d.length == o.1) then some (.fs o.1 ds) else none else none
  | .rp id i off=>((ob[id]?).join).bind fun o=>(o.2[i]?).bind fun cs=>(cs.mapM (fzR ob n)).map fun ds=>.fp ds off
  | a=>if b3l (n+1) a then some a else none
theorem d77 {ob:List (Option Ob)}:∀ (n:Nat) (a b:AV),fzR ob n a=some b->Fz (b1l ob) a b
 | 0,_,_,h=>by cases h
 | n+1,a,b,h=>by
  have all:∀ {l r:List AV},l.mapM (fzR ob n)=some r->l.length=r.length/\∀ (i:Nat) c d,l[i]?=some c->r[i]?=some d->Fz (b1l ob) c d:=fun hm=>by
   obtain ⟨h1,h2⟩:=b5s hm
   exact ⟨h1,fun i c d hc hd=>d77 n c d (h2 i c d hc hd)⟩
  cases a with
  | v x=>cases h; exact .refl _ (.v x)
  | agg cs =>
   obtain ⟨r,hr,rfl⟩:=mE9.1 h
   obtain ⟨h1,h2⟩:=all hr
   exact .agg _ _ h1 h2
  | tup cs =>
   obtain ⟨r,hr,rfl⟩:=mE9.1 h
   obtain ⟨h1,h2⟩:=all hr
   exact .tup _ _ h1 h2
  | fn f as bs =>
   obtain ⟨r,hr,h⟩:=bE9.1 h
   obtain ⟨q,hq,rfl⟩:=mE9.1 h
   obtain ⟨h1,h2⟩:=all hr
   obtain ⟨h3,h4⟩:=all hq
   exact .fn _ _ _ _ _ h1 h2 h3 h4
  | rs id lo len =>
   obtain ⟨o,ho,h⟩:=bE9.1 h
   obtain ⟨sz,es⟩:=o
   by_cases hb:lo+len<=es.length
   ·rw [if_pos hb] at h
    obtain ⟨ds,hd,h⟩:=bE9.1 h
    by_cases hz:(ds.all fun d=>d.length == sz)=true
    ·rw [if_pos hz] at h
     cases h
     obtain ⟨h1,h2⟩:=b5s hd
     refine .rs id lo len sz es ds ho hb (by rw [<- h1,List.length_take,List.length_drop]; show min len (es.length - lo)=len; omega) (fun d hd=>by simpa using List.all_eq_true.1 hz d hd) fun i j c d hc hd=>?_
     unfold at2 at hc hd
     obtain ⟨e,he,hc⟩:=bE9.1 hc
     obtain ⟨x,hx,hd⟩:=bE9.1 hd
     have hi:i<len:=by
      have := (gS9.1 hx).1
      rw [<- h1,List.length_take] at this; omega
     have he2:((es.drop lo).take len)[i]?=some e:=by rw [List.getElem?_take,if_pos hi,List.getElem?_drop]; exact he
     have := h2 i e x he2 hx
     exact (all this).2 j c d hc hd
    ·rw [if_neg hz] at h; cases h
   ·rw [if_neg hb] at h; cases h
  | rp id i off =>
   obtain ⟨o,ho,h⟩:=bE9.1 h
   obtain ⟨cs,hcs,h⟩:=bE9.1 h
   obtain ⟨ds,hd,rfl⟩:=mE9.1 h
   obtain ⟨h1,h2⟩:=all hd
   obtain ⟨sz,es⟩:=o
   exact .rp id i off sz es cs ds ho hcs h1 h2
  | fs sz es =>
   simp only [fzR] at h
   split at h
   ·rename_i hb; cases h; exact .refl _ (b4n _ _ hb)
   ·cases h
  | fp cs off =>
   simp only [fzR] at h
   split at h
   ·rename_i hb; cases h; exact .refl _ (b4n _ _ hb)
   ·cases h
  | mp=>simp [fzR,b3l] at h
  | dead=>simp [fzR,b3l] at h
theorem d78 {ob:List (Option Ob)} {n:Nat}:∀ {as bs:List AV},as.mapM (fzR ob n)=some bs->FzL (b1l ob) as bs
 | [],bs,h=>by cases h; exact .nil
 | a :: as,bs,h=>by
  rw [List.mapM_cons] at h
  simp only [Option.bind_eq_bind,bE9,Option.pure_def] at h
  obtain ⟨b,hb,r',hr,h⟩:=h
  cases h
  exact .cons (d77 _ _ _ hb) (d78 hr)
theorem d76 {ob:List (Option Ob)}:∀ (n:Nat) (a b:AV),fzR ob n a=some b->Frz b
 | 0,_,_,h=>by cases h
 | n+1,a,b,h=>by
  have all:∀ {l r:List AV},l.mapM (fzR ob n)=some r->∀ d∈r,Frz d:=fun hm d hd=>by
   obtain ⟨h1,h2⟩:=b5s hm
   obtain ⟨i,hi⟩:=List.mem_iff_getElem?.1 hd
   have hlt:=(gS9.1 hi).1
   exact d76 n _ d (h2 i _ d (gG9 (by omega)) hi)
  cases a with
  | v x=>cases h; exact .v x
  | agg cs=>obtain ⟨r,hr,rfl⟩:=mE9.1 h; exact .agg _ (all hr)
  | tup cs=>obtain ⟨r,hr,rfl⟩:=mE9.1 h; exact .tup _ (all hr)
  | fn f as bs =>
   obtain ⟨r,hr,h⟩:=bE9.1 h
   obtain ⟨q,hq,rfl⟩:=mE9.1 h
   exact .fn _ _ _ (all hr) (all hq)
  | rs id lo len =>
   obtain ⟨o,ho,h⟩:=bE9.1 h
   split at h
   ·obtain ⟨ds,hd,h⟩:=bE9.1 h
    split at h
    ·cases h
     refine .fs _ _ fun e he c hc=>?_
     obtain ⟨h1,h2⟩:=b5s hd
     obtain ⟨i,hi⟩:=List.mem_iff_getElem?.1 he
     have hlt:=(gS9.1 hi).1
     exact all (h2 i _ e (gG9 (by omega)) hi) c hc
    ·cases h
   ·cases h
  | rp id i off =>
   obtain ⟨o,ho,h⟩:=bE9.1 h
   obtain ⟨cs,hcs,h⟩:=bE9.1 h
   obtain ⟨ds,hd,rfl⟩:=mE9.1 h
   exact .fp _ _ (all hd)
  | fs sz es =>
   simp only [fzR] at h
   split at h
   ·rename_i hb; cases h; exact b4n _ _ hb
   ·cases h
  | fp cs off =>
   simp only [fzR] at h
   split at h
   ·rename_i hb; cases h; exact b4n _ _ hb
   ·cases h
  | mp=>simp [fzR,b3l] at h
  | dead=>simp [fzR,b3l] at h
def s8p (f:Nat->Option Nat):Nat->AV->Option AV
 | 0,_=>none
 | n+1,a=>match a with
  | .rs id lo len=>(f id).map fun k=>.rs k lo len
  | .rp id i off=>(f id).map fun k=>.rp k i off
  | .agg cs=>(cs.mapM (s8p f n)).map .agg
  | .tup cs=>(cs.mapM (s8p f n)).map .tup
  | a=>if b3l (n+1) a then some a else none
theorem c8y {f:Nat->Option Nat}:∀ (n:Nat) (a b:AV),s8p f n a=some b->Ren f a b
 | 0,_,_,h=>by cases h
 | n+1,a,b,h=>by
  have all:∀ {l r:List AV},l.mapM (s8p f n)=some r->l.length=r.length/\∀ (i:Nat) c d,l[i]?=some c->r[i]?=some d->Ren f c d:=fun hm=>by
   obtain ⟨h1,h2⟩:=b5s hm
   exact ⟨h1,fun i c d hc hd=>c8y n c d (h2 i c d hc hd)⟩
  cases a with
  | rs id lo len=>obtain ⟨k,hk,rfl⟩:=mE9.1 h; exact .rs _ _ _ _ hk
  | rp id i off=>obtain ⟨k,hk,rfl⟩:=mE9.1 h; exact .rp _ _ _ _ hk
  | agg cs=>obtain ⟨r,hr,rfl⟩:=mE9.1 h; exact .agg _ _ (all hr).1 (all hr).2
  | tup cs=>obtain ⟨r,hr,rfl⟩:=mE9.1 h; exact .tup _ _ (all hr).1 (all hr).2
  | v x=>simp [s8p,b3l] at h; subst h; exact .frz _ (.v x)
  | fs sz es =>
   simp only [s8p] at h
   split at h
   ·rename_i hb; cases h; exact .frz _ (b4n _ _ hb)
   ·cases h
  | fp cs off =>
   simp only [s8p] at h
   split at h
   ·rename_i hb; cases h; exact .frz _ (b4n _ _ hb)
   ·cases h
  | fn g as bs =>
   simp only [s8p] at h
   split at h
   ·rename_i hb; cases h; exact .frz _ (b4n _ _ hb)
   ·cases h
  | mp=>simp [s8p,b3l] at h
  | dead=>simp [s8p,b3l] at h
def c8x (f:Nat->Option Nat) (n:Nat) (o:Ob):Option Ob :=
 (o.2.mapM fun (e:List AV)=>e.mapM (s8p f n)).bind fun (ds:List (List AV))=>if ds.all (fun d=>d.length == o.1) then some (o.1,ds) else none
theorem g2s {f:Nat->Option Nat} {n:Nat} {o o':Ob} (h:c8x f n o=some o') :
  o'.1 = o.1/\o.2.length=o'.2.length/\(∀ e∈o'.2,e.length=o.1)/\∀ i j c,at2 o.2 i j=some c->∃ d,at2 o'.2 i j=some d/\Ren f c d:=by
 unfold c8x at h
 obtain ⟨ds,hd,h⟩:=bE9.1 h
 split at h
 ·rename_i hz
  cases h
  obtain ⟨h1,h2⟩:=b5s hd
  refine ⟨rfl,h1,fun e he=>by simpa using List.all_eq_true.1 hz e he,fun i j c hc=>?_⟩
  unfold at2 at hc ⊢
  obtain ⟨e,he,hc⟩:=bE9.1 hc
  have hlt:=(gS9.1 he).1
  have hlt2:i<ds.length:=by omega
  have hx:=h2 i e _ he (gG9 hlt2)
  obtain ⟨h3,h4⟩:=b5s hx
  have hj:=(gS9.1 hc).1
  have hj2:j<(ds[i]).length:=by omega
  refine ⟨(ds[i])[j],?_,c8y n _ _ (h4 j c _ hc (gG9 hj2))⟩
  show (ds[i]?).bind (·[j]?)=_
  rw [gG9 hlt2,bS9,gG9 hj2]
 ·cases h
end Go.Nw
