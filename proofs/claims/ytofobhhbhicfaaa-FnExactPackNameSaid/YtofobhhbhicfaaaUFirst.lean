/- Plain laws: the first code that applies. -/
import Derived.Test.YtofobhhbhicfaaaQ3
import Derived.Test.YtofobhhbhicfaaaQ5
import Derived.Test.YtofobhhbhicfaaaUBase
import Derived.Test.YtofobhhbhicfaaaUIn
import Derived.Test.YtofobhhbhicfaaaExt
namespace Go.Proofs.Ytofobhhbhicfaaa.Q
open Go.RowKit Go.Proofs.Ytofobhhbhicfaaa.Ext Go.Proofs.YtofobhhbhicfaaaW.PrintWords Go.Proofs.YtofobhhbhicfaaaW.PrintLast Go.Proofs.YtofobhhbhicfaaaW.PrintMore
set_option linter.unusedVariables false
set_option linter.unusedSimpArgs false
theorem first1 (b : Bool) (c : Int) : impl_first.f [Any.b b, Any.n c] = some (if b = true then c else 0) := by
  unfold impl_first.f; cases b <;> simp [firstO]
theorem first2 (b b' : Bool) (c c' : Int) : impl_first.f [Any.b b, Any.n c, Any.b b', Any.n c'] = some (if b = true then c else if b' = true then c' else 0) := by
  unfold impl_first.f; cases b <;> cases b' <;> simp [firstO]
theorem first3 (b b' b'' : Bool) (c c' c'' : Int) : impl_first.f [Any.b b, Any.n c, Any.b b', Any.n c', Any.b b'', Any.n c''] = some (if b = true then c else if b' = true then c' else if b'' = true then c'' else 0) := by
  unfold impl_first.f; cases b <;> cases b' <;> cases b'' <;> simp [firstO]
theorem first4 (b b' b'' b3 : Bool) (c c' c'' c3 : Int) : impl_first.f [Any.b b, Any.n c, Any.b b', Any.n c', Any.b b'', Any.n c'', Any.b b3, Any.n c3] = some (if b = true then c else if b' = true then c' else if b'' = true then c'' else if b3 = true then c3 else 0) := by
  unfold impl_first.f; cases b <;> cases b' <;> cases b'' <;> cases b3 <;> simp [firstO]
theorem isLongText_eq (t : ByteArray) : impl_isLongText.f t = some (decide ((t.size : Int) > 65536)) := by unfold impl_isLongText.f; rfl

end Go.Proofs.Ytofobhhbhicfaaa.Q
