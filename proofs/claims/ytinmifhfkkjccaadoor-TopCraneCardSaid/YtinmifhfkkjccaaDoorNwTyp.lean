/- From shapes to typed data. -/
import Derived.Test.YtinmifhfkkjccaaDoorNwLast
import Derived.Test.YtinmifhfkkjccaaDoorNwModel
set_option linter.all false
namespace Go.Nw
variable [Bd]
def b5k (n:Int):Prop := -9223372036854775808<=n/\n<=9223372036854775807
theorem b6n {a:AV} (h:Mt (.i .i64) a):∃ n,a=I n/\b5k n:=by
 cases h with
 | i k n h=>exact ⟨n,rfl,by simpa [Lit.wf,IntKind.min,IntKind.max,IntKind.signed,IntKind.bits,b5k] using h⟩
theorem b6o {r:List AV} (h:MtL [] r):r=[]:=List.eq_nil_of_length_eq_zero h.1
theorem b3e {s:Sh} {es:List Sh} {r:List AV} (h:MtL (s :: es) r):∃ a r',r=a :: r'/\Mt s a/\MtL es r':=by
 obtain ⟨h1,h2⟩:=h
 cases r with
 | nil=>simp at h1
 | cons a r =>
  refine ⟨a,r,rfl,h2 0 a s rfl rfl,by simpa using h1,fun j c s' hc hs=>h2 (j+1) c s' (by simpa using hc) (by simpa using hs)⟩
theorem b8q {α:Type} (e:α->List AV) (Ok:α->Prop) {es:List Sh} {a:AV} (h:Mt (.sl es) a) (hrow:∀ r,MtL es r->∃ x,r=e x/\Ok x) :
  ∃ l:List α,a = .fs es.length (l.map e)/\l.length<=Bd.B/\∀ x∈l,Ok x:=by
 cases h with
 | sl _ rows hl hr hc =>
  have hm:∀ r∈rows,MtL es r:=fun r hr'=>by
   obtain ⟨i,hi,e⟩:=List.getElem_of_mem hr'
   refine ⟨hr r hr',fun j c s h1 h2=>hc i j c s ?_ h2⟩
   unfold at2
   rw [gG9 hi,e]; exact h1
  have key:∀ rows:List (List AV),(∀ r∈rows,MtL es r)->∃ l:List α,rows=l.map e/\∀ x∈l,Ok x:=by
   intro rows
   induction rows with
   | nil=>intro _; exact ⟨[],rfl,by simp⟩
   | cons r rows ih =>
    intro hm
    obtain ⟨x,rfl,hx⟩:=hrow r (hm r List.mem_cons_self)
    obtain ⟨l,rfl,hl⟩:=ih fun r hr=>hm r (List.mem_cons_of_mem _ hr)
    exact ⟨x :: l,rfl,fun y hy=>by rcases List.mem_cons.1 hy with rfl|hy; exact hx; exact hl y hy⟩
  obtain ⟨l,rfl,hok⟩:=key rows hm
  exact ⟨l,rfl,by simpa using hl,hok⟩
theorem g1y {es:List Sh} {a:AV} (h:MtA (.agg es) a):∃ r,a = .agg r/\MtL es r:=by cases h; exact ⟨_,rfl,by assumption⟩
theorem g1z {s:ASh} {ss:List ASh} {as:List AV} (h:b7z (s :: ss) as):∃ a as',as=a :: as'/\MtA s a/\b7z ss as':=by
 cases as with
 | nil=>exact h.elim
 | cons a as=>exact ⟨a,as,rfl,h.1,h.2⟩
theorem j8l {as:List AV} (h:b7z [] as):as=[]:=by
 cases as with
 | nil=>rfl
 | cons a as=>exact h.elim
end Go.Nw
