/- The first case that two rules share: the reference's contract. -/
import Derived.Test.YtlbllonpodckgaaContra
import Derived.Deep.RegionLaw
namespace Go.Proofs.Ytlbllonpodckgaa
open Go.RowKit Go.BigFrame
/-- the four boxes of the reference's search -/
def KZ (w0 : World) (tr tc : TypeId) (r s : Rule) (c : Case) (x : World) : Prop :=
  Blk x (w0.heap.size) tr #[.int .i64 r.ageFrom, .int .i64 r.ageTo, .int .i64 r.yearsFrom, .int .i64 r.yearsTo, .int .i64 r.kinds, .int .i64 r.outcome] ∧ Blk x (w0.heap.size + 1) tr #[.int .i64 s.ageFrom, .int .i64 s.ageTo, .int .i64 s.yearsFrom, .int .i64 s.yearsTo, .int .i64 s.kinds, .int .i64 s.outcome] ∧ Blk x (w0.heap.size + 1 + 1) tc #[.int .i64 0, .int .i64 0, .int .i64 0] ∧ Blk x (w0.heap.size + 1 + 1 + 1) tc #[.int .i64 c.age, .int .i64 c.years, .int .i64 c.kind] ∧ Below w0.heap.size w0 x
theorem KZ.past {w0 : World} {tr tc : TypeId} {r s : Rule} {c : Case} {x y : World} (h : KZ w0 tr tc r s c x) (hb : Below x.heap.size x y) : KZ w0 tr tc r s c y :=
  ⟨h.1.below' hb, h.2.1.below' hb, h.2.2.1.below' hb, h.2.2.2.1.below' hb, h.2.2.2.2.trans (hb.mono h.2.2.2.2.size)⟩
theorem KZ.drew {w0 : World} {tr tc : TypeId} {r s : Rule} {c : Case} {x : World} (h : KZ w0 tr tc r s c x) : KZ w0 tr tc r s c x.drew := h.past (Below.refl _ x).drew
theorem Blk.aggr_past {w : World} {g : Nat} {t : TypeId} {cs : List Value} (h : Blk w g t cs.toArray) : ∀ w', (∃ y : Past w, w' = y.1) → ∀ (j : Nat) (v : Value), cs[j]? = some v → w'.cell? ((⟨g, 0, none⟩ : Addr).add j) = some v := by
  rintro _ ⟨y, rfl⟩
  exact Blk.aggr (h.below' y.2)
end Go.Proofs.Ytlbllonpodckgaa
