/- Draws of rates and lists of rates: whatever is drawn, it lies in a range, and nothing but the source turns. -/
import Derived.Test.YtoabhnobgdjgkaaDraw
import Derived.Test.YtoabhnobgdjgkaaApp
import Derived.Test.YtoabhnobgdjgkaaNum
import Derived.Test.YtoabhnobgdjgkaaStInt
namespace Go.Proofs.Ytoabhnobgdjgkaa
open Go.RowKit Go.BigFrame

theorem spec_l01Pick_new (K : Code) (hK : K.Ok) (g : Nat) (w0 : World) (cs : List Value) (m : Nat) (w : World) (hT : Nx K g w0 w) (hm : cs.length = m) (hm0 : 0 < m) (hm1 : m ≤ 100) (hi : cs.all isI64 = true) :
    Calls Try.prog 79 #[.pointer (some ⟨g, 0, none⟩), .slice (some ⟨w.heap.size, 0, none⟩) m m] (w.alloc (.cells cs.toArray 2)) fun e w' => ∃ x : Int, e = .returned (.int .i64 x) ∧ OneOf cs x ∧ Nx K g w0 w' :=
  spec_l01Pick_any K hK g w0 w.heap.size cs m _ (hT.alloc _) (Blk.new w _ _) hT.src.lt hm hm0 hm1 hi

theorem spec_l04DrawRate_any (K : Code) (hK : K.Ok) (g : Nat) (w0 : World) (w : World) (hT : Nx K g w0 w) :
    Calls Try.prog 101 #[.pointer (some ⟨g, 0, none⟩)] w fun e w' => ∃ x : Int, e = .returned (.int .i64 x) ∧ (-1 ≤ x ∧ x ≤ 201) ∧ Nx K g w0 w' := by
  go_enter Try.func101, Try.ntmps101
  go_wp2_with (first | (go_at_call 78; refine (spec_l01Next_any K hK g _ _ _ (Nx.refl (Nx.src (by first | exact hT | exact hT.alloc _ | exact (hT.alloc _).alloc _ | exact hT.drew)))).mono ?_; rintro e w3 ⟨x, rfl, ⟨hx0, hx1⟩, hN⟩; have hT := Nx.trans (by first | exact hT | exact hT.alloc _ | exact (hT.alloc _).alloc _ | exact hT.drew) hN) | (go_at_call 79; refine (spec_l01Pick_new K hK g _ _ _ _ (by first | exact hT | exact hT.alloc _ | exact (hT.alloc _).alloc _ | exact hT.drew) (by rfl) (by decide) (by decide) (by rfl)).mono ?_; rintro e w3 ⟨x, rfl, hx, hT⟩; simp only [OneOf, Value.int.injEq, true_and, or_false] at hx))
  all_goals (go_ret; exact ⟨_, rfl, by omega, hT⟩)

/-- an own list of integers in a range -/
def IntsBy (B : Nat) (w : World) (A : Option Addr) (n c : Nat) (lo hi : Int) : Prop := ∃ xs : List Int, Res B w 2 1 A n c (intRows xs) ∧ ∀ x ∈ xs, lo ≤ x ∧ x ≤ hi
theorem ints_snoc {xs : List Int} {v lo hi : Int} (h : ∀ x ∈ xs, lo ≤ x ∧ x ≤ hi) (hv : lo ≤ v ∧ v ≤ hi) : ∀ x ∈ xs ++ [v], lo ≤ x ∧ x ≤ hi := by
  intro x hx
  rcases List.mem_append.1 hx with h' | h'
  · exact h x h'
  · simp only [List.mem_singleton] at h'; rw [h']; exact hv

end Go.Proofs.Ytoabhnobgdjgkaa
