/- The first case that two rules share: the reference's contract. -/
import Derived.Test.YtlbllonpodckgaaContra2a
import Derived.Test.YtlbllonpodckgaaContra2b
import Derived.Test.YtlbllonpodckgaaContra2c
import Derived.Test.YtlbllonpodckgaaContra2d
namespace Go.Proofs.Ytlbllonpodckgaa
open Go.RowKit Go.BigFrame
theorem spec_l23Common_any (r s : Rule) (hr : ruleB r = true) (hs : ruleB s = true) (w : World) :
    Calls Try.prog 29 #[.agg r.row.toArray, .agg s.row.toArray] w fun e w' => ∃ c : Case, e = .returned (.tuple #[.agg #[.int .i64 c.age, .int .i64 c.years, .int .i64 c.kind], .bool (comP r s).isSome]) ∧ (∀ d, comP r s = some d → c = d) ∧ c.fits ∧ Below w.heap.size w w' := by
  by_cases h1 : r.ageFrom < s.ageFrom
  · by_cases h2 : r.yearsFrom < s.yearsFrom
    · exact spec_l23Common_a r s h1 h2 hr hs w
    · exact spec_l23Common_b r s h1 h2 hr hs w
  · by_cases h2 : r.yearsFrom < s.yearsFrom
    · exact spec_l23Common_c r s h1 h2 hr hs w
    · exact spec_l23Common_d r s h1 h2 hr hs w
end Go.Proofs.Ytlbllonpodckgaa
