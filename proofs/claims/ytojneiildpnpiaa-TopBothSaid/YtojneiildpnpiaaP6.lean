/- Plain laws on the models. -/
import Derived.Test.YtojneiildpnpiaaR1
import Derived.Test.YtojneiildpnpiaaNwI
import Derived.Test.YtojneiildpnpiaaP1
import Derived.Test.YtojneiildpnpiaaP5
import Derived.Test.YtojneiildpnpiaaP4
import Derived.Test.YtojneiildpnpiaaNwPlain
set_option linter.all false
namespace Go.Nw.EM.Ly
@[go_sem] def z0:List XO:=[
 ⟨(some 4),none,.boxF (.t 0)⟩,
 ⟨(some 7),none,.boxF (.t 3)⟩,
 ⟨(some 8),none,.mv (.c (.pointer none))⟩]
@[go_sem] def z1:List XO:=[
 ⟨(some 17),none,.fldA 0 (.tf 4)⟩,
 ⟨(some 18),none,.load false 1 (.tf 17)⟩,
 ⟨(some 19),none,.load false 1 (.tf 7)⟩,
 ⟨(some 20),none,.bin .add .no (.t 19) (.c (.int .i64 1))⟩,
 ⟨(some 21),none,.bin .mul .no (.t 18) (.t 20)⟩,
 ⟨(some 9),none,.mv (.t 21)⟩]
@[go_sem] def z2:List XO:=[
 ⟨(some 22),none,.load true 3 (.tf 4)⟩,
 ⟨(some 23),none,.load false 1 (.tf 7)⟩,
 ⟨(some 24),none,.mv (.t 9)⟩,
 ⟨(some 25),none,.bin .add .no (.t 24) (.c (.int .i64 2))⟩,
 ⟨(some 26),none,.mksl 1 [(.slice none 0 0)] 24 (.t 25) (.t 25)⟩,
 ⟨(some 27),none,.mv (.t 9)⟩,
 ⟨(some 28),none,.mv (.t 9)⟩,
 ⟨(some 29),none,.bin .add .no (.t 28) (.c (.int .i64 1))⟩,
 ⟨(some 30),none,.build [(.int .i64 0),(.slice none 0 0),(.slice none 0 0),(.int .i64 0),(.slice none 0 0),(.int .i64 0),(.int .i64 0)] [(0,3,(.t 22)),(3,1,(.t 23)),(4,1,(.t 26)),(5,1,(.t 27)),(6,1,(.t 29))]⟩,
 ⟨(some 31),none,.box (.t 30)⟩,
 ⟨(some 10),none,.alloc [(.pointer none)]⟩,
 ⟨none,none,.store 1 (.t 10) (.t 31)⟩]
@[go_sem] def z3:List XO:=[
 ⟨(some 32),none,.build [(.int .i64 0),(.int .i64 0),(.int .i64 0),(.int .i64 0)] [(0,1,(.c (.int .i64 (-1))))]⟩,
 ⟨(some 11),none,.alloc [(.int .i64 0),(.int .i64 0),(.int .i64 0),(.int .i64 0)]⟩,
 ⟨none,none,.store 4 (.t 11) (.t 32)⟩]
@[go_sem] def z4:List XO:=[
 ⟨(some 33),none,.fldA 0 (.tf 4)⟩,
 ⟨(some 34),none,.load false 1 (.tf 33)⟩,
 ⟨(some 35),none,.mv (.c (.int .i64 0))⟩]
@[go_sem] def z5:List XO:=[
 ⟨(some 36),none,.bin .lss .no (.t 35) (.t 34)⟩]
@[go_sem] def z6:List XO:=[
 ⟨(some 37),none,.mv (.t 35)⟩,
 ⟨(some 12),none,.mv (.t 37)⟩]
@[go_sem] def z7:List XO:=[
 ⟨(some 38),none,.load false 1 (.t 10)⟩,
 ⟨(some 39),none,.load false 1 (.t 10)⟩,
 ⟨(some 40),none,.nilck (.t 39)⟩,
 ⟨(some 41),none,.fldA 5 (.t 40)⟩,
 ⟨(some 42),none,.load false 1 (.t 41)⟩,
 ⟨(some 43),none,.load false 1 (.t 10)⟩,
 ⟨(some 44),none,.mv (.t 12)⟩,
 ⟨(some 45),none,.call "(*newel/ways.net).node" [(.t 43),(.t 44),(.c (.int .i64 0))]⟩,
 ⟨(some 46),none,.mv (.t 2)⟩,
 ⟨(some 47),none,.mv (.t 12)⟩,
 ⟨(some 48),none,.ixA 1 (.t 46) (.t 47)⟩,
 ⟨(some 49),none,.load false 1 (.t 48)⟩,
 ⟨(some 50),none,.load true 4 (.t 11)⟩,
 ⟨(some 51),none,.callw "(*newel/ways.net).join" [(.t 38),(.t 42),(.t 45),(.t 49),(.t 50)]⟩]
@[go_sem] def z8:List XO:=[
 ⟨(some 52),none,.load false 1 (.tf 7)⟩,
 ⟨(some 53),none,.mv (.c (.int .i64 0))⟩]
@[go_sem] def z9:List XO:=[
 ⟨(some 54),none,.bin .lss .no (.t 53) (.t 52)⟩]
@[go_sem] def z10:List XO:=[
 ⟨(some 55),none,.mv (.t 53)⟩,
 ⟨(some 13),none,.mv (.t 55)⟩]
@[go_sem] def z11:List XO:=[
 ⟨(some 56),none,.load false 1 (.t 10)⟩,
 ⟨(some 57),none,.load false 1 (.t 10)⟩,
 ⟨(some 58),none,.mv (.t 12)⟩,
 ⟨(some 59),none,.mv (.t 13)⟩,
 ⟨(some 60),none,.call "(*newel/ways.net).node" [(.t 57),(.t 58),(.t 59)]⟩,
 ⟨(some 61),none,.load false 1 (.t 10)⟩,
 ⟨(some 62),none,.mv (.t 12)⟩,
 ⟨(some 63),none,.mv (.t 13)⟩,
 ⟨(some 64),none,.bin .add .no (.t 63) (.c (.int .i64 1))⟩,
 ⟨(some 65),none,.call "(*newel/ways.net).node" [(.t 61),(.t 62),(.t 64)]⟩,
 ⟨(some 66),none,.load true 4 (.t 11)⟩,
 ⟨(some 67),none,.callw "(*newel/ways.net).join" [(.t 56),(.t 60),(.t 65),(.c (.int .i64 1099511627776)),(.t 66)]⟩]
@[go_sem] def z12:List XO:=[
 ⟨(some 68),none,.bin .add .no (.t 53) (.c (.int .i64 1))⟩,
 ⟨(some 53),none,.mv (.t 68)⟩]
def N3y:XCode :=
 (.seq (.reg z9) (.seq (.cond (.t 54) .skip (.exit 2)) (.seq (.block 3 (.seq (.reg z10) (.reg z11))) (.reg z12))))
@[go_sem] def z14:List XO:=[
 ⟨(some 69),none,.fldA 2 (.tf 4)⟩,
 ⟨(some 70),none,.load false 1 (.tf 69)⟩,
 ⟨(some 71),none,.mv (.t 12)⟩,
 ⟨(some 72),none,.call "slices.Contains[[]int,int]" [(.t 70),(.t 71)]⟩]
@[go_sem] def z15:List XO:=[
 ⟨(some 73),none,.load false 1 (.tf 7)⟩,
 ⟨(some 74),none,.bin .add .no (.t 73) (.c (.int .i64 1))⟩,
 ⟨(some 75),none,.mv (.c (.int .i64 0))⟩]
@[go_sem] def z16:List XO:=[
 ⟨(some 76),none,.bin .lss .no (.t 75) (.t 74)⟩]
@[go_sem] def z17:List XO:=[
 ⟨(some 77),none,.mv (.t 75)⟩,
 ⟨(some 14),none,.mv (.t 77)⟩]
@[go_sem] def z18:List XO:=[
 ⟨(some 78),none,.load false 1 (.t 10)⟩,
 ⟨(some 79),none,.load false 1 (.t 10)⟩,
 ⟨(some 80),none,.mv (.t 12)⟩,
 ⟨(some 81),none,.mv (.t 14)⟩,
 ⟨(some 82),none,.call "(*newel/ways.net).node" [(.t 79),(.t 80),(.t 81)]⟩,
 ⟨(some 83),none,.load false 1 (.t 10)⟩,
 ⟨(some 84),none,.nilck (.t 83)⟩,
 ⟨(some 85),none,.fldA 6 (.t 84)⟩,
 ⟨(some 86),none,.load false 1 (.t 85)⟩,
 ⟨(some 87),none,.load true 4 (.t 11)⟩,
 ⟨(some 88),none,.callw "(*newel/ways.net).join" [(.t 78),(.t 82),(.t 86),(.c (.int .i64 1099511627776)),(.t 87)]⟩]
@[go_sem] def z19:List XO:=[
 ⟨(some 89),none,.bin .add .no (.t 75) (.c (.int .i64 1))⟩,
 ⟨(some 75),none,.mv (.t 89)⟩]
def N3z:XCode :=
 (.seq (.reg z16) (.seq (.cond (.t 76) .skip (.exit 4)) (.seq (.block 5 (.seq (.reg z17) (.reg z18))) (.reg z19))))
@[go_sem] def z21:List XO:=[
 ⟨(some 90),none,.bin .add .no (.t 35) (.c (.int .i64 1))⟩,
 ⟨(some 35),none,.mv (.t 90)⟩]
def N30:XCode :=
 (.seq (.reg z5) (.seq (.cond (.t 36) .skip (.exit 0)) (.seq (.block 1 (.seq (.reg z6) (.seq (.reg z7) (.seq (.seq (.reg z8) (.block 2 (.loop N3y))) (.seq (.reg z14) (.cond (.t 72) (.seq (.reg z15) (.block 4 (.loop N3z))) .skip)))))) (.reg z21))))
@[go_sem] def z23:List XO:=[
 ⟨(some 91),none,.load true 3 (.tf 4)⟩,
 ⟨(some 92),none,.mv (.t 1)⟩,
 ⟨(some 93),none,.call "newel/ways.headings" [(.t 91),(.t 92)]⟩]
@[go_sem] def z24:List XO:=[
 ⟨(some 15),none,.alloc [(.int .i64 0),(.int .i64 0),(.int .i64 0),(.int .i64 0),(.int .i64 0)]⟩,
 ⟨none,none,.store 5 (.t 15) (.t 94)⟩]
@[go_sem] def z25:List XO:=[
 ⟨(some 16),none,.mv (.c (.int .i64 0))⟩]
@[go_sem] def z26:List XO:=[
 ⟨(some 95),none,.mv (.t 16)⟩,
 ⟨(some 96),none,.fldA 3 (.t 15)⟩,
 ⟨(some 97),none,.load false 1 (.t 96)⟩,
 ⟨(some 98),none,.bin .add .no (.t 95) (.t 97)⟩,
 ⟨(some 99),none,.load false 1 (.tf 7)⟩,
 ⟨(some 100),none,.bin .leq .no (.t 98) (.t 99)⟩]
@[go_sem] def z27:List XO:=[
 ⟨(some 103),none,.load false 1 (.t 10)⟩,
 ⟨(some 104),none,.load false 1 (.t 10)⟩,
 ⟨(some 105),none,.fldA 1 (.t 15)⟩,
 ⟨(some 106),none,.load false 1 (.t 105)⟩,
 ⟨(some 107),none,.mv (.t 16)⟩,
 ⟨(some 108),none,.call "(*newel/ways.net).node" [(.t 104),(.t 106),(.t 107)]⟩,
 ⟨(some 109),none,.load false 1 (.t 10)⟩,
 ⟨(some 110),none,.fldA 2 (.t 15)⟩,
 ⟨(some 111),none,.load false 1 (.t 110)⟩,
 ⟨(some 112),none,.mv (.t 16)⟩,
 ⟨(some 113),none,.fldA 3 (.t 15)⟩,
 ⟨(some 114),none,.load false 1 (.t 113)⟩,
 ⟨(some 115),none,.bin .add .no (.t 112) (.t 114)⟩,
 ⟨(some 116),none,.call "(*newel/ways.net).node" [(.t 109),(.t 111),(.t 115)]⟩,
 ⟨(some 117),none,.fldA 4 (.t 15)⟩,
 ⟨(some 118),none,.load false 1 (.t 117)⟩,
 ⟨(some 119),none,.fldA 0 (.t 15)⟩,
 ⟨(some 120),none,.load false 1 (.t 119)⟩,
 ⟨(some 121),none,.fldA 1 (.t 15)⟩,
 ⟨(some 122),none,.load false 1 (.t 121)⟩,
 ⟨(some 123),none,.mv (.t 16)⟩,
 ⟨(some 124),none,.build [(.int .i64 0),(.int .i64 0),(.int .i64 0),(.int .i64 0)] [(0,1,(.t 120)),(1,1,(.t 122)),(2,1,(.t 123))]⟩,
 ⟨(some 125),none,.callw "(*newel/ways.net).join" [(.t 103),(.t 108),(.t 116),(.t 118),(.t 124)]⟩]
@[go_sem] def z28:List XO:=[
 ⟨(some 101),none,.mv (.t 16)⟩,
 ⟨(some 102),none,.bin .add .no (.t 101) (.c (.int .i64 1))⟩,
 ⟨(some 16),none,.mv (.t 102)⟩]
def N31:XCode :=
 (.seq (.seq (.reg z26) (.cond (.t 100) .skip (.exit 8))) (.seq (.block 9 (.reg z27)) (.reg z28)))
@[go_sem] def z30:List XO:=[
 ⟨(some 126),none,.load false 1 (.t 10)⟩,
 ⟨(some 8),none,.mv (.t 126)⟩]
def z:YCode :=
 (.seq (.leaf (.reg z0)) (.seq (.leaf (.reg z1)) (.seq (.leaf (.reg z2)) (.seq (.leaf (.reg z3)) (.seq (.leaf (.seq (.reg z4) (.block 0 (.loop N30)))) (.seq (.seq (.leaf (.reg z23)) (.block 6 (.range (.t 93) 94 (.reg z24) (.block 7 (.seq (.reg z25) (.block 8 (.loop N31))))))) (.leaf (.seq (.reg z30) .ret))))))))
end Go.Nw.EM.Ly
namespace Go.Nw
open Go.Proofs
variable [Cfg]
def N1z (x:Hd):Scal Try.prog:=⟨.agg [I x.1,I x.2.1,I x.2.2.1,I x.2.2.2.1,I x.2.2.2.2],hdV x,fun w S h loc=>by
 refine .agg _ _ rfl (fun i hi=>?_) (fun i c hc=>?_)
 ·match i,hi with
  | 0,_=>rfl
  | 1,_=>rfl
  | 2,_=>rfl
  | 3,_=>rfl
  | 4,_=>rfl
  | k+5,hi=>simp at hi; omega
 ·match i,hc with
  | 0,hc=>cases hc; exact .v _
  | 1,hc=>cases hc; exact .v _
  | 2,hc=>cases hc; exact .v _
  | 3,hc=>cases hc; exact .v _
  | 4,hc=>cases hc; exact .v _
  | k+5,hc=>simp at hc⟩
theorem N60 {id:FuncId} {fn:Func} (hf:Try.prog.funcs[id]?=some fn) (hn:fn.name = "newel/ways.headings$1"):id=58:=by
 have hu:(Try.prog.funcs.toList.zipIdx.all fun p=>p.1.name != "newel/ways.headings$1" || p.2 == 58)=true:=by kernel_rfl
 have h1:(fn,id)∈Try.prog.funcs.toList.zipIdx:=by
  rw [List.mem_zipIdx_iff_getElem?]
  simpa using hf
 have h2:=List.all_eq_true.1 hu _ h1
 simp only [Bool.or_eq_true,bne_iff_ne,ne_eq,beq_iff_eq] at h2
 rcases h2 with h2|h2
 ·exact absurd hn h2
 ·exact h2
def N1g (p:Pas):List AV:=p.cells.map fun x=>I x
theorem N7m (pl out:Int) (ps:List Pas) (ex:List Int) (hp0:0<ps.length) (hps:ps.length<1000) (he0:0<ex.length) (hex:ex.length<1000) (hkind:∀ p∈ps,p.Kind≠3/\p.Kind≠4)
  (xs : List { x // x∈o12 ps ex ps.length }) (hxs:xs.map (·.1)=o12 ps ex ps.length) :
  N0p Try.prog (fun x:{ x // x∈o12 ps ex ps.length }=>N1z x.1) "newel/ways.headings$1" [.fp [I pl,.fs 7 (ps.map N1g),.fs 1 (ex.map eI)] 0,.fp [I out] 0] xs:=by
 intro id fn hfn hname w S us hSlt hLd hsz hv
 have hid:id=58:=N60 hfn hname
 subst hid
 have hb:=hv 0 _ rfl
 have hb2:=hv 1 _ rfl
 have hus:us=#[us.getD 0 undef,us.getD 1 undef]:=by
  apply Array.ext
  ·simpa using hsz
  ·intro i h1 h2
   have : i=0\/i=1:=by simp at h2; omega
   rcases this with rfl|rfl <;> simp [Array.getD,h1]
 generalize us.getD 0 undef=u0 at hb hus
 generalize us.getD 1 undef=u1 at hb2 hus
 subst hus
 cases hb2 with
 | fp _ _ b2 o2 hS2 val2 hc2 h12 hv2 =>
 cases hb with
 | fp _ _ b o hS val hc h1 hv' =>
 have c1:=hc 1 _ rfl
 have c2:=hc 2 _ rfl
 have v1:=hv' 1 _ rfl
 have v2:=hv' 2 _ rfl
 obtain ⟨bp,op,capp,hSp,e1,hpc⟩:∃ bp op capp,S bp/\val 1 = .slice (some ⟨bp,op,none⟩) ps.length capp/\∀ i k x,i<ps.length->(ps.getD i default).cells[k]?=some x->w.cell? ⟨bp,op+i * 7+k,none⟩=some (.int .i64 x):=by
  generalize val 1=q at v1
  generalize hes:ps.map N1g=es at v1
  have hlen:es.length=ps.length:=by rw [<- hes]; simp
  cases v1 with
  | fsNil sz=>simp at hlen; omega
  | fsE sz a cap=>simp at hlen; omega
  | fs sz es b' o' cap hcap hS' hsz' val' hc' h1' hv' =>
   refine ⟨b',o',cap,hS',by rw [hlen],fun i k x hi hk=>?_⟩
   have hat:at2 es i k=some (I x):=by
    subst hes
    unfold at2
    rw [List.getElem?_map,gG9 hi]
    simp only [Option.map_some,bS9,N1g,List.getElem?_map]
    rw [List.getD_eq_getElem?_getD,gG9 hi] at hk
    simp only [Option.getD_some] at hk
    rw [hk]; rfl
   have g1:=hc' i k _ hat
   have g2:=hv' i k _ hat
   generalize val' i k=q at g1 g2
   cases g2
   exact g1
 obtain ⟨be,oe,cape,hSe,e2,hec⟩:∃ be oe cape,S be/\val 2 = .slice (some ⟨be,oe,none⟩) ex.length cape/\∀ j,j<ex.length->w.cell? ⟨be,oe+j,none⟩=some (.int .i64 (ex.getD j 0)):=by
  generalize val 2=q at v2
  generalize hes:ex.map eI=es at v2
  have hlen:es.length=ex.length:=by rw [<- hes]; simp
  cases v2 with
  | fsNil sz=>simp at hlen; omega
  | fsE sz a cap=>simp at hlen; omega
  | fs sz es b' o' cap hcap hS' hsz' val' hc' h1' hv' =>
   refine ⟨b',o',cap,hS',by rw [hlen],fun j hj=>?_⟩
   have hat:at2 es j 0=some (I (ex.getD j 0)):=by
    subst hes
    unfold at2
    rw [List.getElem?_map,gG9 hj,List.getD_eq_getElem?_getD,gG9 hj]
    rfl
   have g1:=hc' j 0 _ hat
   have g2:=hv' j 0 _ hat
   rw [Nat.mul_one,Nat.add_zero] at g1
   generalize val' j 0=q at g1 g2
   cases g2
   exact g1
 rw [e1] at c1
 rw [e2] at c2
 intro l J W own0 hbel hJ hB hSS hY hst
 have hsame:∀ k,S k->W.heap[k]?=w.heap[k]?:=fun k hk=>hbel.block k (hSlt k hk)
 have hlen:xs.length=(o12 ps ex ps.length).length:=by
  have := congrArg List.length hxs
  rw [List.length_map] at this
  exact this
 have hinj:∀ a b:List { x // x∈o12 ps ex ps.length },a.map (·.1)=b.map (·.1)->a=b:=by
  intro a
  induction a with
  | nil=>intro b h; cases b with
   | nil=>rfl
   | cons y b=>simp at h
  | cons x a ih =>
   intro b h
   cases b with
   | nil=>simp at h
   | cons y b =>
    simp only [List.map_cons,List.cons.injEq] at h
    rw [Subtype.ext h.1,ih b h.2]
 have key:=N50 l b (o+0) bp op be oe capp cape (some ⟨b2,o2+0,none⟩) ps ex hps hex hkind S hS hSp hSe W (fun k hk=>Nat.lt_of_lt_of_le (hSlt k hk) hbel.size) (fun pre own W=>∃ pre':List { x // x∈o12 ps ex ps.length },pre=pre'.map (·.1)/\J pre' own W) own0
  (fun s own A B row ⟨p',hp,hj⟩ hg hr=>⟨p',hp,hJ _ _ _ _ _ hj hg hr⟩) (fun s own A k ⟨p',hp,hj⟩=>hB _ _ _ _ hj) (fun s own A k ⟨p',hp,hj⟩=>hSS _ _ _ _ hj) (fun pre x own W1 hx hj hl=>?_) ?_ ?_ ?_ ?_ ⟨[],rfl,hst⟩
 ·refine key.mono ?_
  rintro e W' ⟨h1,own',pre',hp,hj⟩
  refine ⟨h1,own',?_⟩
  rw [hinj xs pre' (hxs.trans hp)]
  exact hj
 ·obtain ⟨pre',rfl,hj⟩:=hj
  obtain ⟨fn,tmps,assign,body,hy,hR⟩:=hY pre' ⟨x,hx⟩ own W1 hj (by rw [hlen]; simpa using hl)
  refine ⟨fn,tmps,assign,body,hy,hR.mono ?_⟩
  rintro e W' ⟨rfl,own',g1,g2,g3⟩
  exact ⟨rfl,own',⟨pre'++[⟨x,hx⟩],by simp,g1⟩,g2,g3⟩
 ·exact (K61 (hsame b hS) _).trans c1
 ·exact (K61 (hsame b hS) _).trans c2
 ·exact fun i k x hi hk=>(K61 (hsame bp hSp) _).trans (hpc i k x hi hk)
 ·exact fun j hj=>(K61 (hsame be hSe) _).trans (hec j hj)
end Go.Nw
namespace Go.Nw.EM
open Go.Nw.Tp6 Go.Nw.Fl
set_option maxHeartbeats 4000000
theorem N4x {s:List Int} {v:Int} (hl:s.length<=maxLen):N02 s v=some (decide (v∈s)):=by
 have h:=j7v (f:=N03 s v) s (fun (_:Unit) k=>k) (fun r _=>if v∈r then Sum.inr ((s.length:Int) - (r.length:Int)+((r.idxOf v:Nat):Int)) else Sum.inl ()) (fun _ _=>True)
  (fun st k x r hd hg hk hm _=>by
   unfold N03
   simp only [hk,decide_true,if_true,hg,bS9]
   by_cases e:v=x
   ·refine .inr ?_
    have hlen:((x :: r).length:Int)=(s.length:Int) - k:=by rw [<- hd,List.length_drop]; omega
    subst e
    simp only [decide_true,if_true,List.mem_cons,true_or,List.idxOf_cons_self]
    rw [hlen]
    have : (s.length:Int) - ((s.length:Int) - (k:Int))+((0:Nat):Int)=k:=by omega
    rw [this]
   ·refine .inl ⟨(),?_,trivial,?_⟩
    ·simp only [e,decide_false,fT9,if_false,l23 hk hl]
    ·have e2:(v∈x :: r) ↔ v∈r:=by simp [e]
     simp only [e2]
     split
     ·have : (x :: r).idxOf v=r.idxOf v+1:=by
       have e3:(x == v)=false:=by simpa using fun h=>e h.symm
       rw [List.idxOf_cons,e3]; rfl
      rw [this]; congr 1
      simp only [List.length_cons]; omega
     ·rfl)
  (fun st _=>by unfold N03; simp) (s:=()) trivial
 unfold N02 N1p
 rw [h]
 by_cases hv:v∈s
 ·simp only [hv,if_true,bS9,decide_true]
  have : (0:Int)<=(s.length:Int) - (s.length:Int)+((s.idxOf v:Nat):Int):=by omega
  simp [this]
 ·simp only [hv,if_false,bS9,decide_false]
  rfl
theorem N4w {s:List Int} {v:Int} (hl:s.length<=maxLen):N02 s v=some (s.contains v):=by
 rw [N4x hl]
 congr 1
 rw [Bool.eq_iff_iff]
 simp
section
variable {O:Orac}
structure LayS (h:Heap) (b i10 i11:Nat) (c:NetC) (vE:AV) (hs:List AV) (n:Nat) (J:List J4'):Prop where
 net : NetH h b c vE hs (K59 n J)
 o10 : h.ob i10=some (1,[[.rp b 0 0]])
 o11 : h.ob i11=some (4,[mvC (-1,0,0,0)])
 r10 : s8i vE hs i10
 r11 : s8i vE hs i11
 l10 : i10<h.nx
 l11 : i11<h.nx
 nm : b67 h
 ok : ∀ j∈J,OkJ n j
theorem N1i (hf:Has O "(*newel/ways.net).join" x___ways_net__join) {h:Heap} {b i10 i11:Nat} {c:NetC} {vE:AV} {hs:List AV} {n:Nat} {J:List J4'} (L:LayS h b i10 i11 c vE hs n J) {u v:Nat} {room:Int} {mv:Int × Int × Int × Int} (o:OkJ n (u,v,room,mv)) (hl:J.length<900000) :
  b6e O "(*newel/ways.net).join" [.rp b 0 0,I u,I v,I room,.agg (mvC mv)] h (fun r h'=>r = .tup []/\∃ hs',LayS h' b i10 i11 c vE hs' n (J++[(u,v,room,mv)])/\Grew h vE hs h' hs'):=by
 obtain ⟨g1,g2,g3⟩:=N28 L.ok
 have hn:=N29 n J
 obtain ⟨r,h',hc,hfr,rfl,hs',N',gr⟩:=N6c hf L.net (u:=u) (v:=v) (by rw [hn]; exact o.u) (by rw [hn]; exact o.v) o.ne (room:=room) (mv:=mv) (fun u=>by have:=g3 u; omega)
 refine ⟨_,h',hc,hfr,rfl,hs',⟨by rw [N61]; exact N',(gr.ob _ L.l10 L.r10).trans L.o10,(gr.ob _ L.l11 L.r11).trans L.o11,gr.rn _ L.l10 L.r10,gr.rn _ L.l11 L.r11,Nat.lt_of_lt_of_le L.l10 gr.nx,Nat.lt_of_lt_of_le L.l11 gr.nx,gr.nm L.nm,fun j hj=>?_⟩,gr⟩
 rcases List.mem_append.1 hj with hj|hj
 ·exact L.ok j hj
 ·rw [List.mem_singleton.1 hj]; exact o
theorem N0j (hf:Has O "(*newel/ways.net).node" x___ways_net__node) {h:Heap} {b:Nat} {c:NetC} {vE:AV} {pl p t:Nat} (hb:h.ob b=some (7,[c.cells vE])) (hc:c.pl=(pl:Int)) (h1:pl<1000) (h2:p<1000) (h3:t<1000) {k:AV->Heap->Prop} (hk:k (I ((pl * t+p:Nat):Int)) h):@K5x O "(*newel/ways.net).node" [.rp b 0 0,I p,I t] h ⟨k⟩:=by
 have e:((pl * t+p:Nat):Int)=(pl:Int) * t+p:=by simp
 rw [e] at hk
 refine b8l (.cons (.rp b 0 0 7 [c.cells vE] (c.cells vE) _ hb rfl (by rfl) (fun i x y hx hy=>?_)) (.cons (.refl _ (b0e _)) (.cons (.refl _ (b0e _)) .nil))) (N6j hf (pl:Int) p t (by omega) (by omega) (by omega)) (.v _) hk
 match i,hx,hy with
 | 0,hx,hy=>simp only [NetC.cells,hc] at hx; cases hx; cases hy; exact .refl _ (b0e _)
 | 1,hx,hy=>cases hy; exact .dead _
 | 2,hx,hy=>cases hy; exact .dead _
 | 3,hx,hy=>cases hy; exact .dead _
 | 4,hx,hy=>cases hy; exact .dead _
 | 5,hx,hy=>cases hy; exact .dead _
 | 6,hx,hy=>cases hy; exact .dead _
 | k+7,hx,hy=>simp at hy
end
end Go.Nw.EM
namespace Go.Nw.EM
open Go.Nw.Tp6 Go.Nw.Fl Go.Nw.EM.Ly
open Go.Proofs (Pas Hd o12 itA itB)
set_option maxHeartbeats 4000000
set_option maxRecDepth 100000
def K71 (p:Passage):Pas:=⟨p.A,p.B,p.Kind,p.Ticks,p.Wide,p.Machine,p.Still⟩
theorem N21 (s:Station):M99 s=o12 (s.Passages.map K71) s.Exits s.Passages.length:=by
 unfold M99 o12
 rw [List.zipIdx_eq_zip_range',<- List.range_eq_range']
 have key:∀ (l:List Passage) (k:Nat) (full:List Pas),(∀ i,i<l.length->full.getD (k+i) default=K71 (l.getD i default))->(l.zip (List.range' k l.length)).flatMap (fun p=>N10 s p++N11 s p)=(List.range' k l.length).flatMap fun i=>itA s.Exits i (full.getD i default)++itB s.Exits i (full.getD i default):=by
  intro l
  induction l with
  | nil=>intro k full _; rfl
  | cons p l ih =>
   intro k full h
   simp only [List.length_cons,List.range'_succ,List.zip_cons_cons,List.flatMap_cons]
   rw [ih (k+1) full fun i hi=>by
    have := h (i+1) (by simpa using hi)
    rw [show k+1+i=k+(i+1) by omega,this]; rfl]
   have h0:=h 0 (by simp)
   rw [Nat.add_zero] at h0
   rw [h0]; rfl
 have := key s.Passages 0 (s.Passages.map K71) fun i hi=>by
  rw [Nat.zero_add,List.getD_eq_getElem?_getD,List.getElem?_map,List.getD_eq_getElem?_getD,gG9 hi]; rfl
 rw [<- List.range_eq_range'] at this
 exact this
theorem N6y {s:Station} {x:Hd} (h:x∈o12 (s.Passages.map K71) s.Exits s.Passages.length):∃ p∈s.Passages,x.2.2.2.1=p.Ticks/\x.2.2.2.2=p.Wide/\((x.2.1=p.A/\x.2.2.1=p.B)\/(x.2.1=p.B/\x.2.2.1=p.A)):=by
 unfold o12 at h
 rw [List.mem_flatMap] at h
 obtain ⟨i,hi,hx⟩:=h
 rw [List.mem_range] at hi
 have e:(s.Passages.map K71).getD i default=K71 s.Passages[i]:=by
  rw [List.getD_eq_getElem?_getD,List.getElem?_map,gG9 hi]; rfl
 rw [e,List.mem_append] at hx
 refine ⟨s.Passages[i],List.getElem_mem hi,?_⟩
 rcases hx with hx|hx
 ·unfold itA at hx
  split at hx
  ·simp at hx
  ·rw [List.mem_singleton.1 hx]; exact ⟨rfl,rfl,.inl ⟨rfl,rfl⟩⟩
 ·unfold itB at hx
  split at hx
  ·simp at hx
  ·rw [List.mem_singleton.1 hx]; exact ⟨rfl,rfl,.inr ⟨rfl,rfl⟩⟩
theorem N12 (ps:List Pas) (ex:List Int):∀ k,(o12 ps ex k).length<=k * 2
 | 0=>by simp [o12]
 | k+1=>by
  have := N12 ps ex k
  rw [Go.Proofs.itUp_succ,List.length_append,List.length_append]
  have h1:∀ p,(itA ex k p).length<=1:=fun p=>by unfold itA; split <;> simp
  have h2:∀ p,(itB ex k p).length<=1:=fun p=>by unfold itB; split <;> simp
  have := h1 (ps.getD k default)
  have := h2 (ps.getD k default)
  omega
theorem N3r {α:Type} (V:α->Prop):∀ l:List α,(∀ x∈l,V x)->∃ xs:List { x // V x },xs.map (·.1)=l
 | [],_=>⟨[],rfl⟩
 | x :: l,h=>by
  obtain ⟨xs,e⟩:=N3r V l fun y hy=>h y (List.mem_cons_of_mem _ hy)
  exact ⟨⟨x,h x List.mem_cons_self⟩ :: xs,by simp [e]⟩
theorem H82 {α β:Type} {f:α->List β} {m:Nat}:∀ l:List α,(∀ x∈l,(f x).length<=m)->(l.flatMap f).length<=l.length * m
 | [],_=>by simp
 | x :: l,h=>by
  have h1:=H82 l fun y hy=>h y (List.mem_cons_of_mem _ hy)
  have h2:=h x List.mem_cons_self
  rw [List.flatMap_cons,List.length_append,List.length_cons,Nat.succ_mul]
  omega
abbrev OT:Orac:=b0n Go.Proofs.Try.prog
def N0a (s:Station) (T:Nat):NetC:=⟨s.Places,.fs 7 (List.map z9o s.Passages),.fs 1 (List.map eI s.Exits),(T:Int),s.Places.toNat * (T+1),s.Places.toNat * (T+1)+1⟩
structure LayOut (s:Station) (people:List Int) (T:Nat) (r:AV) (h:Heap):Prop where
 ex : ∃ b vE hs,r = .rp b 0 0/\NetH h b (N0a s T) vE hs (K59 (s.Places.toNat * (T+1)+2) (l89 s people T))
 nm : b67 h
 ok : ∀ j∈l89 s people T,OkJ (s.Places.toNat * (T+1)+2) j
theorem N6p (pl p k:Nat):J35 pl p (k+1)=J35 pl p k++[(pl * k+p,pl * (k+1)+p,1099511627776,(-1,0,0,0))]:=by simp [J35,List.range_succ]
theorem N6m (pl T p k:Nat):P1g pl T p (k+1)=P1g pl T p k++[(pl * k+p,pl * (T+1)+1,1099511627776,(-1,0,0,0))]:=by simp [P1g,List.range_succ]
theorem N6n (pl:Nat) (h:H5) (k:Nat):P1b pl h (k+1)=P1b pl h k++[(pl * k+h.2.1.toNat,pl * (k+h.2.2.2.1.toNat)+h.2.2.1.toNat,h.2.2.2.2,(h.1,h.2.1,(k:Int),0))]:=by simp [P1b,List.range_succ]
theorem N2f {α:Type} {f:Nat->List α} {m:Nat} (h:∀ x,(f x).length<=m):∀ p,((List.range p).flatMap f).length<=p * m
 | 0=>by simp
 | p+1=>by
  have h1:=N2f h p
  have h2:=h p
  rw [List.range_succ,List.flatMap_append,List.length_append,Nat.succ_mul]
  simp only [List.flatMap_cons,List.flatMap_nil,List.append_nil]
  omega
theorem N2e (pl p k:Nat):(J35 pl p k).length=k:=by simp [J35]
theorem N24 (pl T p k:Nat):(P1g pl T p k).length=k:=by simp [P1g]
theorem N2d (pl:Nat) (h:H5) (k:Nat):(P1b pl h k).length=k:=by simp [P1b]
theorem N25 (s:Station) (people:List Int) (T p:Nat):(P1c s people T p).length<=2 * T+2:=by
 unfold P1c
 rw [List.length_cons,List.length_append,N2e]
 split
 ·rw [N24]; omega
 ·simp; omega
theorem N0k {pl T p t:Nat} (hp:p<pl) (ht:t<=T):pl * t+p<pl * (T+1):=by
 have h1:pl * t+pl<=pl * (T+1):=by
  rw [<- Nat.mul_succ]; exact Nat.mul_le_mul_left _ (by omega)
 omega
theorem N3c {pl p q t u:Nat} (hp:p<pl) (h:t<u):pl * t+p<pl * u+q:=by
 have h1:pl * t+pl<=pl * u:=by
  rw [<- Nat.mul_succ]; exact Nat.mul_le_mul_left _ (by omega)
 omega
def stA (s:Station):List AV:=[I s.Places,.fs 7 (List.map z9o s.Passages),.fs 1 (List.map eI s.Exits)]
theorem frS (s:Station):∀ c∈stA s,Frz c:=b0a (b0e _) (b0a (b0c fun a _=>c82 a) (b0a (b0c fun a _=>b1t a) b0j))
theorem N4v {O:Orac} {c:X} {p q:XCode} {Q:XExit->Slots->Heap->Prop} {t:Slots} {h:Heap} {x:Bool} (hc:evT t c=B x) (h1:x=true->cw O p Q t h) (h2:x=false->cw O q Q t h):cw O (.cond c p q) Q t h:=by
 rw [g9i,hc]
 exact ⟨x,rfl,h1,h2⟩
theorem N20 {P:Program} {O:Orac} {c:YCode} {Q:XExit->Slots->Heap->Prop} {t:Slots} {h:Heap} (p:Slots->Heap->Prop) (hp:p t h) (hw:∀ t h,p t h->cwY P O c Q t h):cwY P O c Q t h:=hw t h hp
theorem N6f (hf:Has OT "newel/ways.headings" x_ways_headings) (s:Station) (out:Int):Fn OT "newel/ways.headings" [.agg (stA s),I out] (.fn "newel/ways.headings$1" [] [.fp (stA s) 0,.fp [I out] 0]):=by
 refine b1i hf rfl (b0a (.agg _ (frS s)) (b0a (b0e _) b0j)) (.fn _ _ _ b0j (b0a (.fp _ _ (frS s)) (b0a (.fp _ _ (b0a (b0e _) b0j)) b0j))) ?_
 refine b1c (fun t h=>t 0 = .agg (stA s)/\t 1=I out) ⟨rfl,rfl⟩ fun t h ⟨s0,s1⟩=>?_
 simp only [x_ways_headings]
 refine b0b fun K hK=>?_
 simp only [go_sem,s0,s1]
 refine hK _ _ ?_
 clear hK K
 refine b0b fun K hK=>?_
 simp only [go_sem]
 refine hK _ _ ?_
 clear hK K
 simp only [b0x,b1p,b0y]
 exact b8e (v:=.fn "newel/ways.headings$1" [] [.fp (stA s) 0,.fp [I out] 0]) (by simp only [go_sem]) (.refl _ (.fn _ _ _ b0j (b0a (.fp _ _ (frS s)) (b0a (.fp _ _ (b0a (b0e _) b0j)) b0j))))
structure LaySl (t:Slots) (s:Station) (out:Int) (people:List Int) (T n i10 i11:Nat):Prop where
 s1 : t 1=I out
 s2 : t 2 = .fs 1 (List.map eI people)
 s4 : t 4 = .fp (stA s) 0
 s7 : t 7 = .fp [I T] 0
 s10 : t 10 = .rp i10 0 0
 s11 : t 11 = .rp i11 0 0
section
variable (hj:Has OT "(*newel/ways.net).join" x___ways_net__join) (hn:Has OT "(*newel/ways.net).node" x___ways_net__node) (kc:N0o OT) (kh:Has OT "newel/ways.headings" x_ways_headings)
 {s : Station} {out:Int} {people:List Int} {T pl:Nat} (hpl:s.Places=(pl:Int)) (gd:Gd s people (T:Int))
include hj hn kc kh hpl gd
theorem N6g {h0:Heap} (hm0:b67 h0):b6e OT "newel/ways.lay" [.agg (stA s),I out,.fs 1 (List.map eI people),I T] h0 (LayOut s people T):=by
 have hp1:=gd.pl
 have hT:=gd.ti
 have hpl1:1<=pl:=by omega
 have hpl10:pl<=10:=by omega
 have hT60:T<=60:=by omega
 have hplN:s.Places.toNat=pl:=by omega
 generalize hnn:pl * (T+1)=bg
 have hbg:bg<=10 * 61:=by rw [<- hnn]; exact Nat.mul_le_mul hpl10 (by omega)
 refine N4t rfl 19 [4,7,17,33,69] [] Go.Proofs.Try.func19 (by kernel_rfl) (c:=_) rfl (y:=z) (by kernel_rfl) (res:=[.t 8]) (by kernel_rfl) rfl ?_
 generalize hQ:(fun (e:XExit) (t:Slots) (h:Heap)=>d4z [.t 8] (LayOut s people T) e t h/\b67 h)=Q
 have Qret:∀ t h,d4z [.t 8] (LayOut s people T) .ret t h->b67 h->Q .ret t h:=fun t h h1 h2=>by subst hQ; exact ⟨h1,h2⟩
 clear hQ
 unfold z
 rw [K90,K88]
 refine b1c (fun t h=>t 0 = .agg (stA s)/\t 1=I out/\t 2 = .fs 1 (List.map eI people)/\t 3=I T/\h=h0) ⟨rfl,rfl,rfl,rfl,rfl⟩ fun t h ⟨s0,s1,s2,s3,hh⟩=>?_
 subst hh
 refine b03 fun K hK=>?_
 simp only [go_sem,s0,s3]
 refine hK _ _ ?_
 clear hK K
 simp only [b0f]
 rw [K90,K88]
 have w1:IntKind.i64.wrap ((T:Int)+1)=(T:Int)+1:=g3z (by omega) (by omega)
 have w2:IntKind.i64.wrap (s.Places * ((T:Int)+1))=(bg:Int):=by
  rw [hpl,show (pl:Int) * ((T:Int)+1)=((pl * (T+1):Nat):Int) by simp,hnn]
  exact g3z (by omega) (by omega)
 have w3:IntKind.i64.wrap ((bg:Int)+2)=((bg+2:Nat):Int):=by rw [g3z (by omega) (by omega)]; omega
 have w4:IntKind.i64.wrap ((bg:Int)+1)=((bg+1:Nat):Int):=by rw [g3z (by omega) (by omega)]; omega
 refine b03 fun K hK=>?_
 simp only [go_sem,stA,w1,w2]
 refine hK _ _ ?_
 clear hK K
 simp only [b0f]
 rw [K90,K88]
 refine b03 fun K hK=>?_
 simp only [go_sem,w3,w4]
 refine s0z (α:=Arc) (l:=List.replicate (bg+2) []) (j8b (n:=((bg+2:Nat):Int)) (by omega) (by omega) (by omega)) ?_
 simp only [go_sem,List.length_replicate,w4]
 refine hK _ _ ?_
 clear hK K
 simp only [b0f]
 rw [K90,K88]
 refine b03 fun K hK=>?_
 simp only [go_sem]
 refine hK _ _ ?_
 clear hK K
 simp only [b0f]
 have hcs:N0a s T=⟨s.Places,.fs 7 (List.map z9o s.Passages),.fs 1 (List.map eI s.Exits),(T:Int),bg,bg+1⟩:=by unfold N0a; rw [hplN,hnn]
 generalize hcc:N0a s T=c at *
 refine N20 (fun t h=>∃ b i10 i11 vE hs,LaySl t s out people T (bg+2) i10 i11/\LayS h b i10 i11 c vE hs (bg+2) []) ?_ ?_
 ·refine ⟨nxs h.nx,nxs (nxs h.nx),nxs (nxs (nxs h.nx)),.rs h.nx 0 (bg+2),(List.replicate (bg+2) ([]:List Arc)).map (fun _=>nilS),⟨by simp only [go_sem,s1],by simp only [go_sem,s2],by simp only [go_sem,stA],by simp only [go_sem],by simp only [go_sem],by simp only [go_sem]⟩,?_⟩
  have hr0:=s1s (h:=h.new (1,List.map eW (List.map (fun _=>nilS) (List.replicate (bg+2) ([]:List Arc))))) (l:=List.replicate (bg+2) ([]:List Arc)) (sz:=7) (f:=eE) (id:=h.nx) (n:=bg+2) l0n (by simp) (by simp only [go_sem,nxs]; omega) (fun r hr=>(List.mem_replicate.1 hr).2)
  refine ⟨⟨?_,r8j hr0 (fun j hjj hl=>?_) (by simp only [go_sem,nxs]; omega),r94 (by simp only [nxs]; omega),by simp only [go_sem,nxs]; omega⟩,?_,?_,r94 (by simp only [nxs]; omega),r94 (by simp only [nxs]; omega),by simp only [go_sem,nxs]; omega,by simp only [go_sem,nxs]; omega,?_,fun j hjj=>by simp at hjj⟩
  ·rw [hcs]
   simp [Heap.new,Heap.upd,nxs,NetC.cells]
  ·have hjl:j<nxs h.nx:=hl
   simp [Heap.new,Heap.upd,nxs] at hjl ⊢
   rw [if_neg (by omega),if_neg (by omega),if_neg (by omega),if_neg (by omega),if_neg (by omega)]
  ·simp [Heap.new,Heap.upd,nxs]
  ·simp [Heap.new,Heap.upd,nxs,mvC]
  ·exact K6g (K5u (K6g (K5u (K5u (K5u hm0 (by decide)) (by decide)) (by decide)) (by decide)) (by decide)) (by decide)
 clear s0 s1 s2 s3
 rintro t h ⟨b,i10,i11,vE,hs,SL,L0⟩
 have hlen:(people.length:Int)=pl:=by rw [gd.ln,hpl]
 have hmaxE:s.Exits.length<=maxLen:=by have:=gd.ex; show _<=maxLen; unfold maxLen; omega
 have hOk0:∀ p,p<pl->OkJ (bg+2) (bg,p,people.getD p 0,(-1,0,0,0)):=fun p hp=>by
  have h1:=N0k (pl:=pl) (T:=T) (t:=0) hp (Nat.zero_le _)
  have h2:people.getD p 0∈people:=by
   have hpp:p<people.length:=by omega
   rw [List.getD_eq_getElem?_getD,gG9 hpp]
   exact List.getElem_mem hpp
  have h3:=gd.pe _ h2
  exact ⟨by show bg<bg+2; omega,by show p<bg+2; omega,by show bg≠p; omega,h3.1,by show people.getD p 0<=_; omega⟩
 have hOk1:∀ p t,p<pl->t<T->OkJ (bg+2) (pl * t+p,pl * (t+1)+p,1099511627776,(-1,0,0,0)):=fun p t hp ht=>by
  have h1:=N0k (pl:=pl) (T:=T) (t:=t) hp (by omega)
  have h2:=N0k (pl:=pl) (T:=T) (t:=t+1) hp (by omega)
  have h3:=N3c (pl:=pl) (p:=p) (q:=p) (t:=t) (u:=t+1) hp (by omega)
  exact ⟨by show pl * t+p<bg+2; omega,by show pl * (t+1)+p<bg+2; omega,by show pl * t+p≠pl * (t+1)+p; omega,by show (0:Int)<=1099511627776; decide,by show (1099511627776:Int)<=1099511627776; decide⟩
 have hOk2:∀ p t,p<pl->t<=T->OkJ (bg+2) (pl * t+p,bg+1,1099511627776,(-1,0,0,0)):=fun p t hp ht=>by
  have h1:=N0k (pl:=pl) (T:=T) (t:=t) hp ht
  exact ⟨by show pl * t+p<bg+2; omega,by show bg+1<bg+2; omega,by show pl * t+p≠bg+1; omega,by show (0:Int)<=1099511627776; decide,by show (1099511627776:Int)<=1099511627776; decide⟩
 have hcbg:c.bg=bg:=by rw [hcs]
 have hcou:c.ou=bg+1:=by rw [hcs]
 have hcpl:c.pl=(pl:Int):=by rw [hcs]; exact hpl
 have hjl:∀ p,((List.range p).flatMap (P1c s people T)).length<=p * 122:=N2f fun x=>Nat.le_trans (N25 s people T x) (by omega)
 rw [K90,K88]
 refine b0b fun K hK=>?_
 simp only [go_sem,SL.s4,stA]
 refine hK _ _ ?_
 clear hK K
 rw [b0u]
 refine c2k (fun m t1 h1=>∃ (p:Nat) (hs:List AV),p+m=pl/\LaySl t1 s out people T (bg+2) i10 i11/\t1 34=I pl/\t1 35=I p/\LayS h1 b i10 i11 c vE hs (bg+2) ((List.range p).flatMap (P1c s people T))) pl ?_ ?_
 ·exact ⟨0,hs,by omega,⟨by simp only [go_sem,SL.s1],by simp only [go_sem,SL.s2],by simp only [go_sem,SL.s4],by simp only [go_sem,SL.s7],by simp only [go_sem,SL.s10],by simp only [go_sem,SL.s11]⟩,by simp only [go_sem,hpl],by simp only [go_sem]; rfl,L0⟩
 clear SL L0 hs
 rintro m t1 h1 ⟨p,hs,hpm,SL,r34,r35,L⟩
 simp only [N30]
 have hJp:=hjl p
 refine b0b fun K hK=>?_
 simp only [go_sem,r34,r35]
 refine hK _ _ ?_
 clear hK K
 refine b0i fun K1 hK1=>?_
 simp only [go_sem]
 refine b0k (fun hc=>?_) (fun hc=>?_)
 ·simp only [b0s,b0f]
  refine hK1 _ _ ?_
  clear hK1 K1
  have hp:p<pl:=by have:=of_decide_eq_true hc; omega
  have hgp:get people (p:Int)=some (people.getD p 0):=l19 (by rw [List.getD_eq_getElem?_getD,gG9 (by omega:p<people.length)]; rfl)
  refine b0i fun KR hKR=>?_
  rw [b0u]
  refine b0b fun K hK=>?_
  simp only [go_sem,r35]
  refine hK _ _ ?_
  clear hK K
  refine b2p (fun t h2=>∃ hs,LaySl t s out people T (bg+2) i10 i11/\t 34=I pl/\t 35=I p/\t 12=I p/\LayS h2 b i10 i11 c vE hs (bg+2) ((List.range p).flatMap (P1c s people T)++[(bg,p,people.getD p 0,(-1,0,0,0))])) (fun K hK=>?_) ?_
  ·have bx:=L.net.box
   simp only [go_sem,SL.s10,SL.s11,SL.s2,L.o10,L.o11,bx,NetC.cells,hcbg,mvC]
   refine N0j (t:=0) (pl:=pl) (p:=p) hn bx hcpl (by omega) (by omega) (by omega) ?_
   have e0:pl * 0+p=p:=by simp
   rw [e0]
   simp only [go_sem,SL.s2,SL.s11,L.o11,mvC,b08 hgp]
   refine d9m (N1i hj L (hOk0 p hp) (by omega)) ?_
   rintro r h2 ⟨rfl,hs2,L2,_⟩
   simp only [go_sem]
   exact hK _ _ ⟨hs2,⟨by simp only [go_sem,SL.s1],by simp only [go_sem,SL.s2],by simp only [go_sem,SL.s4],by simp only [go_sem,SL.s7],by simp only [go_sem,SL.s10],by simp only [go_sem,SL.s11]⟩,by simp only [go_sem,r34],by simp only [go_sem,r35],by simp only [go_sem],L2⟩
  clear SL r34 r35 L
  rintro t2 h2 ⟨hs2,SL,r34,r35,r12,L⟩
  have hflat:(List.range (p+1)).flatMap (P1c s people T)=((List.range p).flatMap (P1c s people T)++[(bg,p,people.getD p 0,(-1,0,0,0))])++J35 pl p T++(if s.Exits.contains (p:Int) then P1g pl T p (T+1) else []):=by
   rw [List.range_succ,List.flatMap_append]
   simp only [List.flatMap_cons,List.flatMap_nil,List.append_nil]
   unfold P1c
   rw [hplN,hnn]
   simp only [List.append_assoc,List.cons_append,List.nil_append]
  generalize hJ2:(List.range p).flatMap (P1c s people T)++[(bg,p,people.getD p 0,(-1,0,0,0))]=J2 at *
  have hl2:J2.length<=p * 122+1:=by rw [<- hJ2,List.length_append]; simp only [List.length_singleton]; omega
  refine b0i fun K2 hK2=>?_
  refine b0b fun K hK=>?_
  simp only [go_sem,SL.s7]
  refine hK _ _ ?_
  clear hK K
  rw [b0u]
  refine c2k (fun m t3 h3=>∃ (k:Nat) (hs:List AV),k+m=T/\LaySl t3 s out people T (bg+2) i10 i11/\t3 34=I pl/\t3 35=I p/\t3 12=I p/\t3 52=I T/\t3 53=I k/\LayS h3 b i10 i11 c vE hs (bg+2) (J2++J35 pl p k)) T ?_ ?_
  ·exact ⟨0,hs2,by omega,⟨by simp only [go_sem,SL.s1],by simp only [go_sem,SL.s2],by simp only [go_sem,SL.s4],by simp only [go_sem,SL.s7],by simp only [go_sem,SL.s10],by simp only [go_sem,SL.s11]⟩,by simp only [go_sem,r34],by simp only [go_sem,r35],by simp only [go_sem,r12],by simp only [go_sem],by simp only [go_sem]; rfl,by simpa [J35] using L⟩
  clear SL r34 r35 r12 L hs2
  rintro m3 t3 h3 ⟨k,hs3,hkm,SL,r34,r35,r12,r52,r53,L⟩
  simp only [N3y]
  refine b0b fun K hK=>?_
  simp only [go_sem,r52,r53]
  refine hK _ _ ?_
  clear hK K
  refine b0i fun K3 hK3=>?_
  simp only [go_sem]
  refine b0k (fun hc2=>?_) (fun hc2=>?_)
  ·simp only [b0s,b0f]
   refine hK3 _ _ ?_
   clear hK3 K3
   have hk:k<T:=by have:=of_decide_eq_true hc2; omega
   refine b0i fun K4 hK4=>?_
   rw [b0u]
   refine b0b fun K hK=>?_
   simp only [go_sem,r53]
   refine hK _ _ ?_
   clear hK K
   have bx:=L.net.box
   have wk:IntKind.i64.wrap ((k:Int)+1)=((k+1:Nat):Int):=by rw [g3z (by omega) (by omega)]; omega
   refine b03 fun K hK=>?_
   simp only [go_sem,SL.s10,L.o10,r12]
   refine N0j (t:=k) (pl:=pl) (p:=p) hn bx hcpl (by omega) (by omega) (by omega) ?_
   simp only [go_sem,SL.s10,SL.s11,L.o10,r12,wk]
   refine N0j (t:=k+1) (pl:=pl) (p:=p) hn bx hcpl (by omega) (by omega) (by omega) ?_
   simp only [go_sem,SL.s11,L.o11,mvC]
   refine d9m (N1i hj L (hOk1 p k hp hk) (by rw [List.length_append,N2e]; omega)) ?_
   rintro r h4 ⟨rfl,hs4,L4,_⟩
   simp only [go_sem]
   refine hK _ _ ?_
   clear hK K
   simp only [b0f,b02]
   refine hK4 _ _ ?_
   clear hK4 K4
   refine b03 fun K hK=>?_
   simp only [go_sem,r53,wk]
   refine hK _ _ ?_
   clear hK K
   simp only [b0f]
   exact ⟨m3 - 1,by omega,k+1,hs4,by omega,⟨by simp only [go_sem,SL.s1],by simp only [go_sem,SL.s2],by simp only [go_sem,SL.s4],by simp only [go_sem,SL.s7],by simp only [go_sem,SL.s10],by simp only [go_sem,SL.s11]⟩,by simp only [go_sem,r34],by simp only [go_sem,r35],by simp only [go_sem,r12],by simp only [go_sem,r52],by simp only [go_sem],by rw [N6p,<- List.append_assoc]; exact L4⟩
  ·simp only [b09,b1b,b1a]
   have hkT:T=k:=by have:=of_decide_eq_false hc2; omega
   subst hkT
   refine hK2 _ _ ?_
   clear hK2 K2 hK3 K3
   have w1T:IntKind.i64.wrap ((p:Int)+1)=((p+1:Nat):Int):=by rw [g3z (by omega) (by omega)]; omega
   refine b0b fun K hK=>?_
   simp only [go_sem,SL.s4,stA,r12]
   refine b01 (kc s.Exits (p:Int) _ (N4w hmaxE)) ?_
   simp only [go_sem]
   refine hK _ _ ?_
   clear hK K
   simp only [go_sem]
   refine b0k (fun hx=>?_) (fun hx=>?_)
   ·rw [if_pos hx] at hflat
    refine b0b fun K hK=>?_
    simp only [go_sem,SL.s7,w1]
    refine hK _ _ ?_
    clear hK K
    rw [b0u]
    refine c2k (fun m t4 h4=>∃ (k:Nat) (hs:List AV),k+m=T+1/\LaySl t4 s out people T (bg+2) i10 i11/\t4 34=I pl/\t4 35=I p/\t4 12=I p/\t4 74=I ((T+1:Nat):Int)/\t4 75=I k/\LayS h4 b i10 i11 c vE hs (bg+2) (J2++J35 pl p T++P1g pl T p k)) (T+1) ?_ ?_
    ·exact ⟨0,hs3,by omega,⟨by simp only [go_sem,SL.s1],by simp only [go_sem,SL.s2],by simp only [go_sem,SL.s4],by simp only [go_sem,SL.s7],by simp only [go_sem,SL.s10],by simp only [go_sem,SL.s11]⟩,by simp only [go_sem,r34],by simp only [go_sem,r35],by simp only [go_sem,r12],by simp only [go_sem]; rfl,by simp only [go_sem]; rfl,by simpa [P1g] using L⟩
    clear SL r34 r35 r12 L r52 r53
    rintro m4 t4 h4 ⟨k,hs4,hkm,SL,r34,r35,r12,r74,r75,L⟩
    simp only [N3z]
    refine b0b fun K hK=>?_
    simp only [go_sem,r74,r75]
    refine hK _ _ ?_
    clear hK K
    refine b0i fun K3 hK3=>?_
    simp only [go_sem]
    refine b0k (fun hc3=>?_) (fun hc3=>?_)
    ·simp only [b0s,b0f]
     refine hK3 _ _ ?_
     clear hK3 K3
     have hk:k<T+1:=by have:=of_decide_eq_true hc3; omega
     refine b0i fun K4 hK4=>?_
     rw [b0u]
     refine b0b fun K hK=>?_
     simp only [go_sem,r75]
     refine hK _ _ ?_
     clear hK K
     have bx:=L.net.box
     have wk:IntKind.i64.wrap ((k:Int)+1)=((k+1:Nat):Int):=by rw [g3z (by omega) (by omega)]; omega
     refine b03 fun K hK=>?_
     simp only [go_sem,SL.s10,L.o10,r12]
     refine N0j (t:=k) (pl:=pl) (p:=p) hn bx hcpl (by omega) (by omega) (by omega) ?_
     simp only [go_sem,SL.s10,SL.s11,L.o10,L.o11,mvC,bx,NetC.cells,hcou]
     refine d9m (N1i hj L (hOk2 p k hp (by omega)) (by rw [List.length_append,List.length_append,N2e,N24]; omega)) ?_
     rintro r h5 ⟨rfl,hs5,L5,_⟩
     simp only [go_sem]
     refine hK _ _ ?_
     clear hK K
     simp only [b0f,b02]
     refine hK4 _ _ ?_
     clear hK4 K4
     refine b03 fun K hK=>?_
     simp only [go_sem,r75,wk]
     refine hK _ _ ?_
     clear hK K
     simp only [b0f]
     exact ⟨m4 - 1,by omega,k+1,hs5,by omega,⟨by simp only [go_sem,SL.s1],by simp only [go_sem,SL.s2],by simp only [go_sem,SL.s4],by simp only [go_sem,SL.s7],by simp only [go_sem,SL.s10],by simp only [go_sem,SL.s11]⟩,by simp only [go_sem,r34],by simp only [go_sem,r35],by simp only [go_sem,r12],by simp only [go_sem,r74],by simp only [go_sem],by rw [N6m,hnn,<- List.append_assoc]; exact L5⟩
    ·simp only [b09,b1b,b1a,b02,b0f]
     have hkT:T+1=k:=by have:=of_decide_eq_false hc3; omega
     subst hkT
     rw [<- hflat] at L
     refine hKR _ _ ?_
     clear hKR KR hK3 K3
     refine b03 fun K hK=>?_
     simp only [go_sem,r35,w1T]
     refine hK _ _ ?_
     clear hK K
     simp only [b0f]
     exact ⟨m - 1,by omega,p+1,hs4,by omega,⟨by simp only [go_sem,SL.s1],by simp only [go_sem,SL.s2],by simp only [go_sem,SL.s4],by simp only [go_sem,SL.s7],by simp only [go_sem,SL.s10],by simp only [go_sem,SL.s11]⟩,by simp only [go_sem,r34],by simp only [go_sem],L⟩
   ·rw [if_neg (by rw [hx]; simp),List.append_nil] at hflat
    rw [<- hflat] at L
    simp only [b0s,b02,b0f]
    refine hKR _ _ ?_
    clear hKR KR
    refine b03 fun K hK=>?_
    simp only [go_sem,r35,w1T]
    refine hK _ _ ?_
    clear hK K
    simp only [b0f]
    exact ⟨m - 1,by omega,p+1,hs3,by omega,⟨by simp only [go_sem,SL.s1],by simp only [go_sem,SL.s2],by simp only [go_sem,SL.s4],by simp only [go_sem,SL.s7],by simp only [go_sem,SL.s10],by simp only [go_sem,SL.s11]⟩,by simp only [go_sem,r34],by simp only [go_sem],L⟩
 ·simp only [b09,b1b,b1a,b02,b0f]
  have hpp:pl=p:=by have:=of_decide_eq_false hc; omega
  subst hpp
  clear hK1 K1
  clear hJp hc
  have hJ0:=hjl pl
  have SL2:LaySl (upd t1 36 (B (decide ((pl:Int)<pl)))) s out people T (bg+2) i10 i11:=⟨by simp only [go_sem,SL.s1],by simp only [go_sem,SL.s2],by simp only [go_sem,SL.s4],by simp only [go_sem,SL.s7],by simp only [go_sem,SL.s10],by simp only [go_sem,SL.s11]⟩
  clear SL r34 r35
  generalize upd t1 36 (B (decide ((pl:Int)<pl)))=t2 at *
  generalize hJ1:(List.range pl).flatMap (P1c s people T)=J1 at *
  rw [K90,K90,K88]
  refine b03 fun K hK=>?_
  simp only [go_sem,SL2.s4,SL2.s1,stA]
  refine b01 (N6f kh s out) ?_
  simp only [go_sem]
  refine hK _ _ ?_
  clear hK K
  simp only [b0f]
  rw [K8e]
  refine N20 (fun t h=>t 93 = .fn "newel/ways.headings$1" [] [.fp (stA s) 0,.fp [I out] 0]/\LaySl t s out people T (bg+2) i10 i11/\h=h1) ⟨by simp only [go_sem],⟨by simp only [go_sem,SL2.s1],by simp only [go_sem,SL2.s2],by simp only [go_sem,SL2.s4],by simp only [go_sem,SL2.s7],by simp only [go_sem,SL2.s10],by simp only [go_sem,SL2.s11]⟩,rfl⟩ ?_
  clear SL2
  rintro t3 h3 ⟨s93,SL,rfl⟩
  obtain ⟨xs,hxs⟩:=N3r (fun x=>x∈o12 (s.Passages.map K71) s.Exits s.Passages.length) (o12 (s.Passages.map K71) s.Exits s.Passages.length) fun x hx=>hx
  have hxl:xs.length<=48:=by
   have h1:=congrArg List.length hxs
   rw [List.length_map] at h1
   rw [h1]
   have := N12 (s.Passages.map K71) s.Exits s.Passages.length
   have := gd.pn
   omega
  have hseq:=N7m s.Places out (s.Passages.map K71) s.Exits (by rw [List.length_map]; exact gd.pn.1) (by rw [List.length_map]; have:=gd.pn; omega) gd.ex.1 (by have:=gd.ex; omega) (fun p hp=>by
   obtain ⟨q,hq,rfl⟩:=List.mem_map.1 hp
   exact (gd.pp q hq).2.2.2.2.2)
  rw [List.length_map] at hseq
  have hseq:=hseq xs hxs
  have e1:List.map N1g (s.Passages.map K71)=List.map z9o s.Passages:=by rw [List.map_map]; rfl
  rw [e1] at hseq
  have hlenH:∀ l:List Hd,(l.flatMap fun x=>P1b pl x (T+1 - x.2.2.2.1.toNat)).length<=l.length * 61:=fun l=>H82 l fun x _=>by rw [N2d]; omega
  refine N45 (fun x=>N1z x.1) (J:=fun pre h=>∃ hs,LayS h b i10 i11 c vE hs (bg+2) (J1++(pre.map (·.1)).flatMap fun x=>P1b pl x (T+1 - x.2.2.2.1.toNat))) (f := "newel/ways.headings$1") (cs:=[.fp (stA s) 0,.fp [I out] 0]) (xs:=xs) s93 (b0a (.fp _ _ (frS s)) (b0a (.fp _ _ (b0a (b0e _) b0j)) b0j)) hseq (fun k h ⟨hs,hj⟩=>hj.nm) ⟨hs,by simpa using L⟩ ?_ ?_
  ·rintro pre ⟨x,hx⟩ h4 hlt ⟨hs4,L4⟩
   clear L s93
   obtain ⟨q,hq,ht,hw,hends⟩:=N6y hx
   obtain ⟨gA,gB,gAB,gT,gW,gK⟩:=gd.pp q hq
   obtain ⟨ix,fx,tx,kx,wx⟩:=x
   simp only at ht hw hends
   obtain ⟨f,rfl⟩:∃ f:Nat,fx=f:=⟨fx.toNat,by rcases hends with ⟨e,_⟩|⟨e,_⟩ <;> omega⟩
   obtain ⟨g,rfl⟩:∃ g:Nat,tx=g:=⟨tx.toNat,by rcases hends with ⟨_,e⟩|⟨_,e⟩ <;> omega⟩
   obtain ⟨tk,rfl⟩:∃ tk:Nat,kx=tk:=⟨kx.toNat,by omega⟩
   have hf:f<pl:=by rcases hends with ⟨e,_⟩|⟨e,_⟩ <;> omega
   have hg:g<pl:=by rcases hends with ⟨_,e⟩|⟨_,e⟩ <;> omega
   have htk1:1<=tk:=by omega
   have htk2:tk<=20:=by omega
   generalize hJp:J1++(List.map (fun x=>x.val) pre).flatMap (fun x=>P1b pl x (T+1 - x.2.2.2.1.toNat))=Jp at L4
   have hJl:Jp.length<=pl * 122+48 * 61:=by
    rw [<- hJp,List.length_append]
    have h1:=hlenH (List.map (fun x=>x.val) pre)
    rw [List.length_map] at h1
    have h2:pre.length * 61<=48 * 61:=Nat.mul_le_mul_right _ (by omega)
    omega
   refine b03 fun K hK=>?_
   simp only [go_sem,N1z]
   refine hK _ _ ?_
   clear hK K
   simp only [b0f]
   refine ⟨K6g (K5u L4.nm (by decide)) (by decide),?_⟩
   have l10:=L4.l10
   have l11:=L4.l11
   have lbb:=L4.net.lt
   rw [b0u]
   refine b1c (fun t h5=>∃ i15 hs,LaySl t s out people T (bg+2) i10 i11/\t 15 = .rp i15 0 0/\h5.ob i15=some (5,[[I ix,I f,I g,I tk,I wx]])/\s8i vE hs i15/\i15<h5.nx/\LayS h5 b i10 i11 c vE hs (bg+2) Jp) ?_ ?_
   ·refine ⟨h4.nx,hs4,⟨by simp only [go_sem,SL.s1],by simp only [go_sem,SL.s2],by simp only [go_sem,SL.s4],by simp only [go_sem,SL.s7],by simp only [go_sem,SL.s10],by simp only [go_sem,SL.s11]⟩,by simp only [go_sem],by simp only [go_sem],r7w L4.net.rr (Nat.le_refl _),by simp only [go_sem,nxs]; omega,?_⟩
    have oldh:Old h4 ((h4.new (5,[[AV.v (Value.int IntKind.i64 0),AV.v (Value.int IntKind.i64 0),AV.v (Value.int IntKind.i64 0),AV.v (Value.int IntKind.i64 0),AV.v (Value.int IntKind.i64 0)]])).upd h4.nx (some (5,[[I ix,I f,I g,I tk,I wx]]))):=((Old.refl h4).new (by decide)).upd (Nat.le_refl _) (by decide)
    exact ⟨oldh.neth L4.net,(oldh.ob _ l10).trans L4.o10,(oldh.ob _ l11).trans L4.o11,L4.r10,L4.r11,Nat.lt_of_lt_of_le l10 oldh.nx,Nat.lt_of_lt_of_le l11 oldh.nx,oldh.nm L4.nm,L4.ok⟩
   clear SL L4 l10 l11 lbb
   rintro t5 h5 ⟨i15,hs5,SL,r15,o15,n15,l15,L⟩
   refine b0b fun K hK=>?_
   simp only [go_sem]
   refine hK _ _ ?_
   clear hK K
   rw [b0u]
   refine c2k (fun m t6 h6=>∃ (k:Nat) (hs:List AV),k+m=T+1/\k<=T+1 - tk/\LaySl t6 s out people T (bg+2) i10 i11/\t6 15 = .rp i15 0 0/\t6 16=I k/\h6.ob i15=some (5,[[I ix,I f,I g,I tk,I wx]])/\s8i vE hs i15/\i15<h6.nx/\LayS h6 b i10 i11 c vE hs (bg+2) (Jp++P1b pl (ix,(f:Int),(g:Int),(tk:Int),wx) k)) (T+1) ?_ ?_
   ·exact ⟨0,hs5,by omega,by omega,⟨by simp only [go_sem,SL.s1],by simp only [go_sem,SL.s2],by simp only [go_sem,SL.s4],by simp only [go_sem,SL.s7],by simp only [go_sem,SL.s10],by simp only [go_sem,SL.s11]⟩,by simp only [go_sem,r15],by simp only [go_sem]; rfl,o15,n15,l15,by simpa [P1b] using L⟩
   clear SL r15 o15 n15 l15 L
   rintro m6 t6 h6 ⟨k,hs6,hkm,hkT,SL,r15,r16,o15,n15,l15,L⟩
   simp only [N31]
   have wkt:IntKind.i64.wrap ((k:Int)+(tk:Int))=((k+tk:Nat):Int):=by rw [g3z (by omega) (by omega)]; omega
   have wk:IntKind.i64.wrap ((k:Int)+1)=((k+1:Nat):Int):=by rw [g3z (by omega) (by omega)]; omega
   refine b0i fun K5 hK5=>?_
   refine b0b fun K hK=>?_
   simp only [go_sem,r15,r16,o15,SL.s7,wkt]
   refine hK _ _ ?_
   clear hK K
   simp only [go_sem]
   refine b0k (fun hc=>?_) (fun hc=>?_)
   ·simp only [b0s,b0f]
    refine hK5 _ _ ?_
    clear hK5 K5
    have hle:k+tk<=T:=by have:=of_decide_eq_true hc; omega
    refine b0i fun K6 hK6=>?_
    rw [b0u]
    have bx:=L.net.box
    have ok3:OkJ (bg+2) (pl * k+f,pl * (k+tk)+g,wx,(ix,(f:Int),(k:Int),0)):=by
     have h1:=N0k (pl:=pl) (T:=T) (t:=k) hf (by omega)
     have h2:=N0k (pl:=pl) (T:=T) (t:=k+tk) hg hle
     have h3:=N3c (pl:=pl) (p:=f) (q:=g) (t:=k) (u:=k+tk) hf (by omega)
     exact ⟨by show pl * k+f<bg+2; omega,by show pl * (k+tk)+g<bg+2; omega,by show pl * k+f≠pl * (k+tk)+g; omega,by show (0:Int)<=wx; omega,by show wx<=(1099511627776:Int); omega⟩
    refine b03 fun K hK=>?_
    simp only [go_sem,SL.s10,L.o10,r15,r16,o15]
    refine N0j (t:=k) (pl:=pl) (p:=f) hn bx hcpl (by omega) (by omega) (by omega) ?_
    simp only [go_sem,SL.s10,L.o10,r15,r16,o15,wkt]
    refine N0j (t:=k+tk) (pl:=pl) (p:=g) hn bx hcpl (by omega) (by omega) (by omega) ?_
    simp only [go_sem,r15,r16,o15]
    refine d9m (N1i hj L ok3 (by rw [List.length_append,N2d]; omega)) ?_
    rintro r h7 ⟨rfl,hs7,L7,gr⟩
    simp only [go_sem]
    refine hK _ _ ?_
    clear hK K
    simp only [b0f,b02]
    refine hK6 _ _ ?_
    clear hK6 K6
    refine b03 fun K hK=>?_
    simp only [go_sem,r16,wk]
    refine hK _ _ ?_
    clear hK K
    simp only [b0f]
    exact ⟨m6 - 1,by omega,k+1,hs7,by omega,by omega,⟨by simp only [go_sem,SL.s1],by simp only [go_sem,SL.s2],by simp only [go_sem,SL.s4],by simp only [go_sem,SL.s7],by simp only [go_sem,SL.s10],by simp only [go_sem,SL.s11]⟩,by simp only [go_sem,r15],by simp only [go_sem],(gr.ob _ l15 n15).trans o15,gr.rn _ l15 n15,Nat.lt_of_lt_of_le l15 gr.nx,by rw [N6n,<- List.append_assoc]; simpa using L7⟩
   ·simp only [b09,b1b,b1a,b02,b0f]
    have hge:T+1 - tk=k:=by have:=of_decide_eq_false hc; omega
    refine ⟨hs6,?_⟩
    rw [List.map_append,List.flatMap_append,<- List.append_assoc,hJp]
    simp only [List.map_cons,List.map_nil,List.flatMap_cons,List.flatMap_nil,List.append_nil,Int.toNat_natCast]
    rw [hge]
    exact L
  ·rintro h4 ⟨hs4,L4⟩
   simp only [b02,b0f]
   rw [K88]
   have hfin:J1++(List.map (fun x=>x.val) xs).flatMap (fun x=>P1b pl x (T+1 - x.2.2.2.1.toNat))=l89 s people T:=by
    rw [hxs,<- hJ1]
    unfold l89
    rw [hplN,N21]
   rw [hfin] at L4
   refine b0b fun K hK=>?_
   simp only [go_sem,SL.s10,L4.o10]
   refine hK _ _ ?_
   clear hK K
   simp only [b0x,b1p,b2e]
   refine Qret _ _ ?_ L4.nm
   rw [l4j]
   refine y65 (v:=.rp b 0 0) (by simp only [go_sem]) ⟨⟨b,vE,hs4,rfl,?_⟩,L4.nm,?_⟩
   ·rw [hcc,hplN,hnn]; exact L4.net
   ·rw [hplN,hnn]; exact L4.ok
end
end Go.Nw.EM
namespace Go.Nw.EM
open Go.Nw.Tp6 Go.Nw.Fl
set_option maxHeartbeats 4000000
set_option maxRecDepth 100000
theorem N2l (S:Nat->Bool):∀ J:List J4,b45 S J=M97 S J
 | []=>rfl
 | j :: r=>by simp only [b45,M97,N2l S r]
theorem N3e {n:Nat} (S:Nat->Bool):∀ J:List J4',(∀ j∈J,OkJ n j)->M97 S J<=(J.length:Int) * 1099511627776
 | [],_=>by simp [M97]
 | j :: r,h=>by
  have h1:=N3e S r fun x hx=>h x (List.mem_cons_of_mem _ hx)
  have h2:=(h j List.mem_cons_self).r1
  have h3:=(h j List.mem_cons_self).r0
  simp only [M97,List.length_cons]
  have e:((r.length+1:Nat):Int) * 1099511627776=(r.length:Int) * 1099511627776+1099511627776:=by omega
  rw [e]
  split <;> omega
theorem N6o (s:Station) (people:List Int) (T:Nat) (hp:s.Places.toNat<=10) (hT:T<=60) (hq:s.Passages.length<=24):(l89 s people T).length<=4148:=by
 unfold l89
 rw [List.length_append]
 have h1:=N2f (f:=P1c s people T) (m:=122) (fun x=>Nat.le_trans (N25 s people T x) (by omega)) s.Places.toNat
 have h2:=H82 (f:=fun h:H5=>P1b s.Places.toNat h (T+1 - h.2.2.2.1.toNat)) (m:=61) (M99 s) fun x _=>by rw [N2d]; omega
 have h3:(M99 s).length<=48:=by
  rw [N21]
  have := N12 (s.Passages.map K71) s.Exits s.Passages.length
  omega
 have h4:s.Places.toNat * 122<=10 * 122:=Nat.mul_le_mul_right _ hp
 have h5:(M99 s).length * 61<=48 * 61:=Nat.mul_le_mul_right _ h3
 omega
theorem N43 {b o:Nat} {J:List J4} {v:Int} (h:N0g b o J v):N0s b o J=some v:=by
 unfold N0s
 have hx:∃ v,N0g b o J v:=⟨v,h⟩
 rw [dif_pos hx]
 have h2:=Classical.choose_spec hx
 generalize Classical.choose hx=w at h2
 obtain ⟨⟨S,a1,a2,a3⟩,a4⟩:=h
 obtain ⟨⟨S',b1,b2,b3⟩,b4⟩:=h2
 have h3:=a4 S' b1 b2
 have h4:=b4 S a1 a2
 congr 1
 omega
section
variable (hj:Has OT "(*newel/ways.net).join" x___ways_net__join) (hn:Has OT "(*newel/ways.net).node" x___ways_net__node) (kc:N0o OT) (kh:Has OT "newel/ways.headings" x_ways_headings)
 (hfi : Has OT "(*newel/ways.net).fill" x___ways_net__fill) (hle:Has OT "(*newel/ways.net).levels" x___ways_net__levels) (hpu:Has OT "(*newel/ways.net).push" x___ways_net__push) (kr:N09 OT)
include hj hn kc kh hfi hle hpu kr
theorem N6q {s:Station} {out:Int} {people:List Int} {T:Nat} (gd:Gd s people (T:Int)) {h0:Heap} (hm0:b67 h0) :
  b6e OT "newel/ways.lay" [.agg (stA s),I out,.fs 1 (List.map eI people),I T] h0 (fun r h=>b6e OT "(*newel/ways.net).fill" [r] h (fun r2 _=>∃ v,r2=I v/\N0v s people T=some v)):=by
 have hp:=gd.pl
 have hT:=gd.ti
 obtain ⟨r,h,hc,hfr,⟨b,vE,hs,rfl,N⟩,nm,ok⟩:=N6g hj hn kc kh (pl:=s.Places.toNat) (out:=out) (by omega) gd hm0
 refine ⟨_,h,hc,hfr,?_⟩
 obtain ⟨g1,g2,g3⟩:=N28 ok
 have hl:=N6o s people T (by omega) (by omega) gd.pn.2
 have hlen:=N29 (s.Places.toNat * (T+1)+2) (l89 s people T)
 have hbg:s.Places.toNat * (T+1)<=10 * 61:=Nat.mul_le_mul (by omega) (by omega)
 have hbig:=N3e (N0b (s.Places.toNat * (T+1))) _ ok
 have fo:FillOk (K59 (s.Places.toNat * (T+1)+2) (l89 s people T)) (N0a s T):=⟨g1,by rw [hlen]; omega,fun u=>by have:=g3 u; unfold b36 at this; omega,by rw [hlen]; unfold N0a; simp only; omega,by rw [hlen]; unfold N0a; simp only; omega,by unfold N0a; simp only; omega,by
  unfold N0a
  simp only
  rw [g2]
  omega⟩
 obtain ⟨r2,h2,hc2,hfr2,v,rfl,hmin⟩:=N6e hfi hle hpu kr N fo
 refine ⟨_,h2,hc2,hfr2,v,rfl,?_⟩
 unfold N0v
 refine N43 ?_
 obtain ⟨⟨S,a1,a2,a3⟩,a4⟩:=hmin
 exact ⟨⟨S,a1,a2,by rw [N2l,<- g2]; exact a3⟩,fun S h1 h2=>by rw [N2l,<- g2]; exact a4 S h1 h2⟩
theorem N6l (hf:Has OT "newel/ways.Left" x_ways_Left) (k1:N1c OT):N1b OT:=by
 intro s out people ticks r hm0
 unfold N05 at hm0
 obtain ⟨e,he,hm0⟩:=b0g hm0
 refine b1i hf rfl (b0a (.agg _ (frS s)) (b0a (b0e _) (b0a (b0c fun a _=>b1t a) (b0a (b0e _) b0j)))) (.tup _ (b0a (b0e _) (b0a (b0e _) b0j))) ?_
 refine b1c (fun t h=>t 0 = .agg (stA s)/\t 1=I out/\t 2 = .fs 1 (List.map eI people)/\t 3=I ticks/\h=Heap.empty) ⟨rfl,rfl,rfl,rfl,rfl⟩ fun t h ⟨s0,s1,s2,s3,hh⟩=>?_
 subst hh
 simp only [x_ways_Left]
 refine b0b fun K hK=>?_
 simp only [go_sem,s0]
 refine hK _ _ ?_
 clear hK K
 refine b0i fun K0 hK0=>?_
 refine b0b fun K hK=>?_
 simp only [go_sem,s1,s2,s3,stA]
 refine b01 (k1 s out people ticks e he) ?_
 simp only [go_sem]
 refine hK _ _ ?_
 clear hK K
 refine b0b fun K hK=>?_
 simp only [go_sem]
 refine hK _ _ ?_
 clear hK K
 refine N4v (x:=!(decide (e=0))) (by simp only [go_sem,decide_not]) (fun hc=>?_) (fun hc=>?_)
 ·rw [if_pos hc] at hm0
  obtain rfl:=Option.some.inj hm0
  refine b0b fun K hK=>?_
  simp only [go_sem]
  refine hK _ _ ?_
  clear hK K
  simp only [b0x,b1p,b0y]
  exact d1m (r:=I 0) (s:=I e) (by simp only [go_sem]) (by simp only [go_sem]) (b0e _) (b0e _)
 rw [if_neg (by rw [hc]; simp)] at hm0
 split at hm0
 case isFalse=>cases hm0
 rename_i gd
 obtain ⟨T,hT⟩:∃ T:Nat,ticks=T:=⟨ticks.toNat,by have:=gd.ti; omega⟩
 subst hT
 rw [Int.toNat_natCast] at hm0
 obtain ⟨v,hv,hm0⟩:=b0g hm0
 obtain rfl:=Option.some.inj hm0
 simp only [b0s,b0f]
 refine hK0 _ _ ?_
 clear hK0 K0
 refine b0b fun K hK=>?_
 simp only [go_sem,s1,s2,s3,stA]
 refine d9m (N6q hj hn kc kh hfi hle hpu kr gd (h0:=Heap.empty) (out:=out) K7h) ?_
 rintro r2 h2 hfill
 simp only [go_sem,b5r r2]
 refine d9m hfill ?_
 rintro r3 h3 ⟨v',rfl,hv'⟩
 rw [hv] at hv'
 cases hv'
 simp only [go_sem]
 refine hK _ _ ?_
 clear hK K
 simp only [b0x,b1p,b0y]
 exact d1m (r:=I v) (s:=I 0) (by simp only [go_sem]) (by simp only [go_sem]) (b0e _) (b0e _)
end
end Go.Nw.EM
namespace Go.Nw.EM
open Go.Nw.Tp6
abbrev O:Orac:=OT
theorem N2a (h1:Has O "newel/ways.Left" x_ways_Left) (h2:Has O "(*newel/ways.net).join" x___ways_net__join) (h3:Has O "(*newel/ways.net).node" x___ways_net__node) (h4:Has O "newel/ways.headings" x_ways_headings) (h5:Has O "(*newel/ways.net).fill" x___ways_net__fill) (h6:Has O "(*newel/ways.net).levels" x___ways_net__levels) (h7:Has O "(*newel/ways.net).push" x___ways_net__push) (h8:Has O "slices.Repeat[[]int,int]" x_slices_Repeat___int_int_) (N18:N0o O) (N16:N1a O) (N2c:N1c O):N1b O:=by
 exact N6l h2 h3 N18 h4 h5 h6 h7 (N6d h8 N16) h1 N2c
end Go.Nw.EM
