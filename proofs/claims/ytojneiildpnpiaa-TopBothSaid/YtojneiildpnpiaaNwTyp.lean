/- From shapes to typed data. -/
import Derived.Test.YtojneiildpnpiaaNwLast
import Derived.Test.YtojneiildpnpiaaNwModel
set_option linter.all false
namespace Go.Nw
variable [Bd]
def b5k (n:Int):Prop := -9223372036854775808<=n/\n<=9223372036854775807
theorem b6n {a:AV} (h:Mt (.i .i64) a):∃ n,a=I n/\b5k n:=by
 cases h with
 | i k n h=>exact ⟨n,rfl,by simpa [Lit.wf,IntKind.min,IntKind.max,IntKind.signed,IntKind.bits,b5k] using h⟩
theorem b6o {r:List AV} (h:MtL [] r):r=[]:=List.eq_nil_of_length_eq_zero h.1
theorem b3e {s:Sh} {es:List Sh} {r:List AV} (h:MtL (s :: es) r):∃ a r',r=a :: r'/\Mt s a/\MtL es r':=by
 obtain ⟨h1,h2⟩:=h
 cases r with
 | nil=>simp at h1
 | cons a r =>
  refine ⟨a,r,rfl,h2 0 a s rfl rfl,by simpa using h1,fun j c s' hc hs=>h2 (j+1) c s' (by simpa using hc) (by simpa using hs)⟩
theorem o9m {s:Sh} {a:AV} (h:MtA (.c s) a):Mt s a:=by cases h; assumption
theorem g1y {es:List Sh} {a:AV} (h:MtA (.agg es) a):∃ r,a = .agg r/\MtL es r:=by cases h; exact ⟨_,rfl,by assumption⟩
theorem g1z {s:ASh} {ss:List ASh} {as:List AV} (h:b7z (s :: ss) as):∃ a as',as=a :: as'/\MtA s a/\b7z ss as':=by
 cases as with
 | nil=>exact h.elim
 | cons a as=>exact ⟨a,as,rfl,h.1,h.2⟩
theorem j8l {as:List AV} (h:b7z [] as):as=[]:=by
 cases as with
 | nil=>rfl
 | cons a as=>exact h.elim
end Go.Nw
