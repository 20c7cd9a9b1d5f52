/- How a basis among a law's arguments is opened. No condition. -/
import Derived.Test.YthcnkcoplgdlkaaStBasis
import Derived.Test.YthcnkcoplgdlkaaLaw
namespace Go.Proofs.Ythcnkcoplgdlkaa
open Go.ChangeShapes Go.WideShapes Go.ChangeAt Go.RowKit Go.Deep

theorem two_of {α : Type} {cs : List α} (h : cs.length = 2) : ∃ a b, cs = [a, b] := by match cs, h with | [a, b], _ => exact ⟨a, b, rfl⟩
theorem three_of {α : Type} {cs : List α} (h : cs.length = 3) : ∃ a b c, cs = [a, b, c] := by match cs, h with | [a, b, c], _ => exact ⟨a, b, c, rfl⟩
section
variable {H : Type} {enc : TypeId × Value → H} {w : World} {base : Nat} {spare : Nat → Bool} {held : Bool}
theorem slice_shape {P : Program} {t e : TypeId} {fuel : Nat} {cs : List Value} {x : DataW H × List MemPlace} (ht : P.underlying t = some (.slice e))
    (h : DataW.trod enc P w base spare held fuel t cs = some x) : ∃ A n cap, cs = [.slice A n cap] := by
  rcases open_slice ht h with ⟨h0, _⟩ | ⟨a, len, cap', m', n', D, Pl, hcs, _⟩
  · exact ⟨_, _, _, h0⟩
  · exact ⟨_, _, _, hcs⟩
theorem some_of_get {α : Type} {xs : List α} {i : Nat} {o : Option α} (hi : i < xs.length) (h : o = xs[i]?) : ∃ y, o = some y := by
  rw [List.getElem?_eq_getElem hi] at h
  exact ⟨_, h⟩
set_option maxRecDepth 100000 in
theorem open_table {fuel : Nat} {cs : List Value} {x : DataW H × List MemPlace} (h : DataW.trod enc Try.prog w base spare held fuel 24 cs = some x) :
    ∃ (first : Int) (A : Option Addr) (n cap : Nat) (xs : List Int), cs = [.int .i64 first, .slice A n cap] ∧ n ≤ maxLen ∧ xs.length = n ∧ Rd w w.heap.size A 1 (intRows xs) ∧ (∀ x ∈ xs, In64 x) ∧ In64 first := by
  obtain ⟨ys, m, _, _, hl, hyl, hf⟩ := DataW.trod_struct Try.underlying24 h
  have hl2 : cs.length = 2 := hl.trans (by kernel_rfl)
  have hy2 : ys.length = 2 := hyl.trans rfl
  have g0 := hf 0 _ rfl
  have g1 := hf 1 _ rfl
  obtain ⟨y0, e0⟩ := some_of_get (by omega) g0
  obtain ⟨y1, e1⟩ := some_of_get (by omega) g1
  obtain ⟨z, hz, _, wz⟩ := DataW.trod_int Try.underlying2 e0
  obtain ⟨A, n, cap, hs⟩ := slice_shape Try.underlying22 e1
  rw [hs] at e1
  obtain ⟨hn, rows, hrl, hrw, hRd⟩ := open_rows Try.underlying22 (by kernel_rfl) (by decide) (intCells_int Try.underlying2) e1
  obtain ⟨xs, hxl, hxr, hxf⟩ := ints_of_nums rows hrw
  rw [← hxr] at hRd
  refine ⟨z, A, n, cap, xs, ?_, hn, hxl.trans hrl, hRd, hxf, in64_of_wf wz⟩
  obtain ⟨a, b, rfl⟩ : ∃ a b, cs = [a, b] := two_of hl2
  have k1 : Try.prog.cellsOf 2 = 1 := by kernel_rfl
  have k2 : Try.prog.cellsOf 22 = 1 := by kernel_rfl
  have hz' : List.take 1 [a, b] = [.int .i64 z] := by rw [← k1]; exact hz
  have hs' : List.take 1 [b] = [.slice A n cap] := by rw [← k2]; exact hs
  simp only [List.take_succ_cons, List.take_zero, List.cons.injEq, and_true] at hz' hs'
  rw [hz', hs']
set_option maxRecDepth 100000 in
theorem open_basis {r : Reach} {b0 : Nat} {v : Value} {d : DataW H} {p : List MemPlace} (hv : Value.okWide Try.prog w r b0 26 v) (h : DataW.Trod enc Try.prog w base spare held 26 v d p) :
    ∃ (b : Bas) (A : Option Addr) (n cap : Nat), v = .agg #[.int .i64 b.first, .slice A n cap, .int .i64 b.rate] ∧ n ≤ maxLen ∧ b.lives.length = n ∧ Rd w w.heap.size A 1 (intRows b.lives) ∧ (∀ x ∈ b.lives, In64 x) ∧ In64 b.first ∧ In64 b.rate := by
  obtain ⟨cs, rfl, _⟩ := okWide_struct Try.underlying26 hv
  obtain ⟨fuel, h⟩ := h
  obtain ⟨cs⟩ := cs
  simp only [Value.cells] at h
  obtain ⟨ys, m, _, _, hl, hyl, hf⟩ := DataW.trod_struct Try.underlying26 h
  have hl2 : cs.length = 3 := hl.trans (by kernel_rfl)
  have hy2 : ys.length = 2 := hyl.trans rfl
  have g0 := hf 0 _ rfl
  have g1 := hf 1 _ rfl
  obtain ⟨y0, e0⟩ := some_of_get (by omega) g0
  obtain ⟨y1, e1⟩ := some_of_get (by omega) g1
  obtain ⟨first, A, n, cap, xs, hs, hn, hxl, hR, hx, h1⟩ := open_table e0
  obtain ⟨z, hz, _, wz⟩ := DataW.trod_int Try.underlying2 e1
  obtain ⟨a, b, c, rfl⟩ : ∃ a b c, cs = [a, b, c] := three_of hl2
  have k1 : Try.prog.cellsOf 2 = 1 := by kernel_rfl
  have k2 : Try.prog.cellsOf 24 = 2 := by kernel_rfl
  have hs' : List.take 2 [a, b, c] = [.int .i64 first, .slice A n cap] := by rw [← k2]; exact hs
  have hz' : List.take 1 [c] = [.int .i64 z] := by rw [← k1]; exact hz
  simp only [List.take_succ_cons, List.take_zero, List.cons.injEq, and_true] at hz' hs'
  obtain ⟨rfl, rfl⟩ := hs'
  subst hz'
  exact ⟨⟨first, xs, z⟩, A, n, cap, rfl, hn, hxl, hR, hx, h1, in64_of_wf wz⟩
end
end Go.Proofs.Ythcnkcoplgdlkaa
