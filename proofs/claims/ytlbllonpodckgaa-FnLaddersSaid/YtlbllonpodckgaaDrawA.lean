/- Draws of rates and lists of rates: whatever is drawn, it lies in a range, and nothing but the source turns. -/
import Derived.Test.YtlbllonpodckgaaDraw
import Derived.Test.YtlbllonpodckgaaApp
import Derived.Test.YtlbllonpodckgaaNum
import Derived.Test.YtlbllonpodckgaaStInt
namespace Go.Proofs.Ytlbllonpodckgaa
open Go.RowKit Go.BigFrame

theorem spec_l01Pick_new (K : Code) (hK : K.Ok) (g : Nat) (w0 : World) (cs : List Value) (m : Nat) (w : World) (hT : Nx K g w0 w) (hm : cs.length = m) (hm0 : 0 < m) (hm1 : m ≤ 100) (hi : cs.all isI64 = true) :
    Calls Try.prog 46 #[.pointer (some ⟨g, 0, none⟩), .slice (some ⟨w.heap.size, 0, none⟩) m m] (w.alloc (.cells cs.toArray 2)) fun e w' => ∃ x : Int, e = .returned (.int .i64 x) ∧ OneOf cs x ∧ Nx K g w0 w' :=
  spec_l01Pick_any K hK g w0 w.heap.size cs m _ (hT.alloc _) (Blk.new w _ _) hT.src.lt hm hm0 hm1 hi

/-- an own list of integers in a range -/
def IntsBy (B : Nat) (w : World) (A : Option Addr) (n c : Nat) (lo hi : Int) : Prop := ∃ xs : List Int, Res B w 2 1 A n c (intRows xs) ∧ ∀ x ∈ xs, lo ≤ x ∧ x ≤ hi
theorem ints_snoc {xs : List Int} {v lo hi : Int} (h : ∀ x ∈ xs, lo ≤ x ∧ x ≤ hi) (hv : lo ≤ v ∧ v ≤ hi) : ∀ x ∈ xs ++ [v], lo ≤ x ∧ x ≤ hi := by
  intro x hx
  rcases List.mem_append.1 hx with h' | h'
  · exact h x h'
  · simp only [List.mem_singleton] at h'; rw [h']; exact hv

end Go.Proofs.Ytlbllonpodckgaa
