/- Equality of structs and arrays of integers, bools and strings. -/
import Derived.Test.YtojneiildpnpiaaNwOps3
set_option linter.all false
namespace Go.Nw
section
variable {P:Program} {w:World}
theorem D1d {S:Nat->Prop} {h:Heap} {loc:Loc}:∀ (ks:List FK) (as bs:List AV) (xs ys:List Value),as.length=xs.length->bs.length=ys.length ->
  (∀ (j:Nat) c,as[j]?=some c->∃ y,xs[j]?=some y/\SimV P w S h loc c y)->(∀ (j:Nat) c,bs[j]?=some c->∃ y,ys[j]?=some y/\SimV P w S h loc c y)->∀ r,r7h ks as bs=some r->feq ks xs ys=some r
 | ks,as,bs,xs,ys,ha,hb,hs,ht,r,he=>by
  unfold r7h at he
  split at he
  ·cases he
   have h1:xs=[]:=List.eq_nil_of_length_eq_zero ha.symm
   have h2:ys=[]:=List.eq_nil_of_length_eq_zero hb.symm
   subst h1 h2; rfl
  all_goals first
   | cases he
   | skip
  ·rename_i ks k a as k' b bs
   cases xs with
   | nil=>simp at ha
   | cons x xs =>
    cases ys with
    | nil=>simp at hb
    | cons y ys =>
     obtain ⟨x',hx,sx⟩:=hs 0 _ rfl
     obtain ⟨y',hy,sy⟩:=ht 0 _ rfl
     simp at hx hy; subst hx hy
     cases sx; cases sy
     simp only [feq]
     split at he
     ·rename_i hk; rw [if_pos hk]
      split at he
      ·rename_i hab; rw [if_pos hab]
       exact D1d ks as bs xs ys (by simpa using ha) (by simpa using hb) (fun j c hj=>hs (j+1) c (by simpa using hj)) (fun j c hj=>ht (j+1) c (by simpa using hj)) r he
      ·rename_i hab; rw [if_neg hab]; exact he
     ·cases he
  ·rename_i ks a as b bs
   cases xs with
   | nil=>simp at ha
   | cons x xs =>
    cases ys with
    | nil=>simp at hb
    | cons y ys =>
     obtain ⟨x',hx,sx⟩:=hs 0 _ rfl
     obtain ⟨y',hy,sy⟩:=ht 0 _ rfl
     simp at hx hy; subst hx hy
     cases sx; cases sy
     simp only [feq]
     split at he
     ·rename_i hab; rw [if_pos hab]
      exact D1d ks as bs xs ys (by simpa using ha) (by simpa using hb) (fun j c hj=>hs (j+1) c (by simpa using hj)) (fun j c hj=>ht (j+1) c (by simpa using hj)) r he
     ·rename_i hab; rw [if_neg hab]; exact he
  ·rename_i ks a as b bs
   cases xs with
   | nil=>simp at ha
   | cons x xs =>
    cases ys with
    | nil=>simp at hb
    | cons y ys =>
     obtain ⟨x',hx,sx⟩:=hs 0 _ rfl
     obtain ⟨y',hy,sy⟩:=ht 0 _ rfl
     simp at hx hy; subst hx hy
     cases sx; cases sy
     simp only [feq]
     split at he
     ·rename_i hab; rw [if_pos hab]
      exact D1d ks as bs xs ys (by simpa using ha) (by simpa using hb) (fun j c hj=>hs (j+1) c (by simpa using hj)) (fun j c hj=>ht (j+1) c (by simpa using hj)) r he
     ·rename_i hab; rw [if_neg hab]; exact he
theorem d1t:∀ (ks:List FK) (xs ys:List Value) (ks':List FK) (xs' ys':List Value) (r:Bool),xs.length=ks.length->ys.length=ks.length->feq (ks++ks') (xs++xs') (ys++ys')=some r ->
  (feq ks xs ys=some true/\feq ks' xs' ys'=some r)\/(feq ks xs ys=some false/\r=false)
 | [],[],[],ks',xs',ys',r,_,_,h=>.inl ⟨rfl,by simpa using h⟩
 | k :: ks,x :: xs,y :: ys,ks',xs',ys',r,hx,hy,h=>by
  have ih:=d1t ks xs ys ks' xs' ys' r (by simpa using hx) (by simpa using hy)
  simp only [List.cons_append] at h
  unfold feq at h
  split at h
  ·simp_all
  ·rename_i e1 e2 e3; cases e1; cases e2; cases e3
   simp only [feq]
   split at h
   ·rename_i hk; rw [if_pos hk]
    split at h
    ·rename_i hab; rw [if_pos hab]; exact ih h
    ·rename_i hab; rw [if_neg hab]; cases h; exact .inr ⟨rfl,rfl⟩
   ·cases h
  ·rename_i e1 e2 e3; cases e1; cases e2; cases e3
   simp only [feq]
   split at h
   ·rename_i hab; rw [if_pos hab]; exact ih h
   ·rename_i hab; rw [if_neg hab]; cases h; exact .inr ⟨rfl,rfl⟩
  ·rename_i e1 e2 e3; cases e1; cases e2; cases e3
   simp only [feq]
   split at h
   ·rename_i hab; rw [if_pos hab]; exact ih h
   ·rename_i hab; rw [if_neg hab]; cases h; exact .inr ⟨rfl,rfl⟩
  ·cases h
def b4l (P:Program) (t:TypeId) (xs:List Value):Value:=if b2c P t then .agg xs.toArray else xs.headD undef
theorem c1c {t n off:Nat} (ht:(P.underlying t).isSome) (hn:b1x P t=some n) {xs:List Value} (hle:off+n<=xs.length) (h1:b2c P t=false->n=1) :
  (part t xs.toArray off).run P w = .ok (b4l P t ((xs.drop off).take n)) w:=by
 unfold part b4l
 simp only [Sem.run_bind,c4r ht,Result.andThen_ok]
 cases ha:b2c P t with
 | true =>
  simp only [if_true,Sem.run_bind,b3s hn,Result.andThen_ok,Sem.run_pure]
  congr 2
  apply Array.ext'
  simp [List.extract]
 | false =>
  have := h1 ha; subst this
  have hlt:off<xs.length:=by omega
  have e1:(xs.drop off).take 1=[xs[off]]:=by
   rw [List.drop_eq_getElem_cons hlt]; rfl
  simp [hlt,e1]
theorem d10 {α:Type} (n:Nat) (k:List α):(List.replicate n k).flatten.length=n * k.length:=by simp
theorem c66 {d:Nat} {t:TypeId} {ks:List FK} (h:b2m P d t=some ks):b1x P t=some ks.length:=by
 cases d with
 | zero=>simp [b2m] at h
 | succ d =>
  unfold b2m at h
  simp only [bE9] at h
  obtain ⟨k3,_,h4⟩:=h
  split at h4
  ·rename_i h5; cases h4; exact h5
  ·cases h4
theorem c2t {d:Nat} {t:TypeId} {ks:List FK} (h:b2m P d t=some ks):(P.underlying t).isSome:=by
 cases d with
 | zero=>simp [b2m] at h
 | succ d =>
  unfold b2m at h
  cases hh:P.underlying t with
  | none=>simp [hh] at h
  | some _=>rfl
theorem c2s {d:Nat} {t:TypeId} {ks:List FK} (h:b2m P d t=some ks) (ha:b2c P t=false):ks.length=1:=by
 cases d with
 | zero=>simp [b2m] at h
 | succ d =>
  unfold b2m at h
  unfold b2c at ha
  cases hh:P.underlying t with
  | none=>simp [hh] at h
  | some q =>
   cases q <;> simp [hh] at h ha <;> (obtain ⟨_,rfl⟩:=h; rfl)
theorem b91:∀ (d:Nat) (t:TypeId) (ks:List FK),b2m P d t=some ks->∀ dd,d<=dd->∀ (xs ys:List Value) (r:Bool),xs.length=ks.length->ys.length=ks.length->feq ks xs ys=some r ->
  (Op.equalIn dd t (b4l P t xs) (b4l P t ys)).run P w = .ok r w
 | 0,t,ks,h,_,_,_,_,_,_,_,_=>by simp [b2m] at h
 | d+1,t,ks,h,dd,hdd,xs,ys,r,hx,hy,hf=>by
  obtain ⟨dd,rfl⟩:∃ k,dd=k+1:=⟨dd - 1,by omega⟩
  unfold b2m at h
  cases hu:P.underlying t with
  | none=>simp [hu] at h
  | some kd =>
   simp only [hu] at h
   cases kd with
   | bool =>
    simp only [bS9] at h
    split at h <;> cases h
    match xs,ys,hx,hy,hf with
    | [x],[y],_,_,hf =>
     cases x <;> try (simp [feq] at hf; done)
     cases y <;> try (simp [feq] at hf; done)
     simp [feq] at hf
     simp [b4l,b2c,hu,Op.equalIn,run_underlying hu]
     split at hf <;> simp_all
   | int k =>
    simp only [bS9] at h
    split at h <;> cases h
    match xs,ys,hx,hy,hf with
    | [x],[y],_,_,hf =>
     cases x <;> try (simp [feq] at hf; done)
     cases y <;> try (simp [feq] at hf; done)
     simp [feq] at hf
     obtain ⟨h1,h2⟩:=hf
     subst h1
     simp [b4l,b2c,hu,Op.equalIn,run_underlying hu]
     split at h2 <;> simp_all
   | string =>
    simp only [bS9] at h
    split at h <;> cases h
    match xs,ys,hx,hy,hf with
    | [x],[y],_,_,hf =>
     cases x <;> try (simp [feq] at hf; done)
     cases y <;> try (simp [feq] at hf; done)
     simp [feq] at hf
     simp [b4l,b2c,hu]
     rw [run_equalIn_string w dd t _ _ hu]
     split at hf <;> simp_all
   | struct fs =>
    have hagg:b2c P t=true:=by simp [b2c,hu]
    have hsd:P.stoodInHeld t=false:=by
     cases hh:P.stoodInHeld t with
     | false=>rfl
     | true=>simp [hh] at h
    simp only [hsd,fT9,if_false] at h
    cases hff:b5z P (b2m P d) fs.toList 0 with
    | none=>simp [hff] at h
    | some ks' =>
     simp only [hff,bS9] at h
     split at h
     ·cases h
      have hfo:P.fieldsOf t=fs:=by simp [Program.fieldsOf,hu]
      simp only [b4l,hagg,if_true]
      rw [run_equalIn_struct w dd t _ _ (by rw [hfo]; exact hu) hsd,hfo]
      have key:∀ (fl:List Field) (n:Nat) (ks:List FK),b5z P (b2m P d) fl n=some ks->n+ks.length<=xs.length->n+ks.length<=ys.length->∀ r,feq ks ((xs.drop n).take ks.length) ((ys.drop n).take ks.length)=some r ->
        (Op.eqFields dd xs.toArray ys.toArray fl).run P w = .ok r w:=by
       intro fl
       induction fl with
       | nil=>intro n ks hk _ _ r hr; simp [b5z] at hk; subst hk; simp [feq] at hr; subst hr; simp [Op.eqFields]
       | cons f fl ih =>
        intro n ks hk hlx hly r hr
        unfold b5z at hk
        split at hk
        ·rename_i hc
         obtain ⟨hname,hoff⟩:=hc
         cases hft:b2m P d f.type with
         | none=>simp [hft] at hk
         | some k1 =>
          simp only [hft,bS9] at hk
          cases hrest:b5z P (b2m P d) fl (n+k1.length) with
          | none=>simp [hrest] at hk
          | some k2 =>
           simp only [hrest,Option.map_some,iE9] at hk
           subst hk
           simp only [List.length_append] at hlx hly hr
           have hsz:=c66 hft
           have hut:=c2t hft
           have hone:=c2s hft
           have hpx:=c1c (w:=w) hut hsz (xs:=xs) (off:=n) (by omega) hone
           have hpy:=c1c (w:=w) hut hsz (xs:=ys) (off:=n) (by omega) hone
           have hsx:∀ l:List Value,n+(k1.length+k2.length)<=l.length->(l.drop n).take (k1.length+k2.length)=(l.drop n).take k1.length++(l.drop (n+k1.length)).take k2.length:=fun l hl=>by
            rw [List.take_add,List.drop_drop]
           rw [hsx xs hlx,hsx ys hly] at hr
           rcases d1t k1 _ _ k2 _ _ r (by simp; omega) (by simp; omega) hr with ⟨h1,h2⟩|⟨h1,rfl⟩
           ·have he:=b91 d f.type k1 hft dd (by omega) _ _ true (by simp; omega) (by simp; omega) h1
            simp only [Op.eqFields,hname,ne_eq,not_false_eq_true,if_true,Sem.run_bind,hoff,hpx,hpy,Result.andThen_ok,he,Bool.not_true,fT9,if_false]
            exact ih (n+k1.length) k2 hrest (by omega) (by omega) r h2
           ·have he:=b91 d f.type k1 hft dd (by omega) _ _ false (by simp; omega) (by simp; omega) h1
            simp only [Op.eqFields,hname,ne_eq,not_false_eq_true,if_true,Sem.run_bind,hoff,hpx,hpy,Result.andThen_ok,he,Bool.not_false,Sem.run_pure]
        ·cases hk
      refine key fs.toList 0 ks hff (by omega) (by omega) r ?_
      rw [List.drop_zero,List.drop_zero,List.take_of_length_le (Nat.le_of_eq hx),List.take_of_length_le (Nat.le_of_eq hy)]
      exact hf
     ·cases h
   | array n e =>
    have hagg:b2c P t=true:=by simp [b2c,hu]
    cases hft:b2m P d e with
    | none=>simp [hft] at h
    | some k1 =>
     simp only [hft,Option.map_some,bS9] at h
     split at h
     ·cases h
      have hcell:P.cellsOf e=k1.length:=by
       have := c66 hft
       unfold b1x at this
       unfold Program.cellsOf
       rw [this]; rfl
      obtain ⟨i,hi⟩:∃ i,P.info? e=some i:=by
       have := c66 hft
       unfold b1x at this
       cases hh:P.info? e with
       | none=>simp [hh] at this
       | some i=>exact ⟨i,rfl⟩
      simp only [b4l,hagg,if_true]
      rw [run_equalIn_array w dd _ _ hu hi,hcell,List.range_eq_range']
      have hxl:xs.length=n * k1.length:=by rw [hx,d10]
      have hyl:ys.length=n * k1.length:=by rw [hy,d10]
      have key:∀ (m i:Nat),i+m=n->∀ r,feq (List.replicate m k1).flatten (xs.drop (i * k1.length)) (ys.drop (i * k1.length))=some r ->
        (Op.eqItems dd e k1.length xs.toArray ys.toArray (List.range' i m)).run P w = .ok r w:=by
       intro m
       induction m with
       | zero =>
        intro i hi r hr
        have e1:xs.drop (i * k1.length)=[]:=List.drop_eq_nil_of_le (by rw [hxl,<- hi]; simp)
        have e2:ys.drop (i * k1.length)=[]:=List.drop_eq_nil_of_le (by rw [hyl,<- hi]; simp)
        rw [e1,e2] at hr
        simp [feq] at hr; subst hr; simp [Op.eqItems]
       | succ m ih =>
        intro i hi r hr
        have hle:(i+1) * k1.length<=n * k1.length:=Nat.mul_le_mul_right _ (by omega)
        rw [Nat.succ_mul] at hle
        have hpx:=c1c (w:=w) (c2t hft) (c66 hft) (xs:=xs) (off:=i * k1.length) (by omega) (c2s hft)
        have hpy:=c1c (w:=w) (c2t hft) (c66 hft) (xs:=ys) (off:=i * k1.length) (by omega) (c2s hft)
        have hsx:∀ l:List Value,l.drop (i * k1.length)=(l.drop (i * k1.length)).take k1.length++l.drop ((i+1) * k1.length):=fun l=>by
         rw [Nat.succ_mul,<- List.drop_drop,List.take_append_drop]
        rw [hsx xs,hsx ys,List.replicate_succ,List.flatten_cons] at hr
        rcases d1t k1 _ _ _ _ _ r (by simp; omega) (by simp; omega) hr with ⟨h1,h2⟩|⟨h1,rfl⟩
        ·have he:=b91 d e k1 hft dd (by omega) _ _ true (by simp; omega) (by simp; omega) h1
         simp only [List.range'_succ,Op.eqItems,Sem.run_bind,hpx,hpy,Result.andThen_ok,he,Bool.not_true,fT9,if_false]
         exact ih (i+1) (by omega) r h2
        ·have he:=b91 d e k1 hft dd (by omega) _ _ false (by simp; omega) (by simp; omega) h1
         simp only [List.range'_succ,Op.eqItems,Sem.run_bind,hpx,hpy,Result.andThen_ok,he,Bool.not_false,if_true,Sem.run_pure]
      exact key n 0 (by omega) r (by simpa using hf)
     ·cases h
   | _=>simp at h
end
end Go.Nw
