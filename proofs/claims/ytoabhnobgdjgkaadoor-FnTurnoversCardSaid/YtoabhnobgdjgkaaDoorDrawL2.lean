/- What the laws on ledgers draw. -/
import Derived.Test.YtoabhnobgdjgkaaDoorDrawL
import Derived.Deep.Cut
import Derived.Test.YtoabhnobgdjgkaaDoorTail
namespace Go.Proofs.YtoabhnobgdjgkaaDoor
open Go.RowKit Go.BigFrame
theorem Blk.aggq {w : World} {g : Nat} {t : TypeId} {cs : List Value} (h : Blk w g t cs.toArray) (o : Nat) (vs : List Value) (e : (cs.drop o).take vs.length = vs) :
    ∀ (j : Nat) (v : Value), vs[j]? = some v → w.cell? ((⟨g, o, none⟩ : Addr).add j) = some v := by
  intro j v hv
  rw [add_none, h.cell, List.getElem?_toArray]
  have hj := (List.getElem?_eq_some_iff.1 hv).1
  rw [← e, List.getElem?_take, if_pos hj, List.getElem?_drop] at hv
  exact hv
theorem Blk.aggq_past {w : World} {g : Nat} {t : TypeId} {cs : List Value} (h : Blk w g t cs.toArray) (o : Nat) (vs : List Value) (e : (cs.drop o).take vs.length = vs) :
    ∀ w', (∃ y : Past w, w' = y.1) → ∀ (j : Nat) (v : Value), vs[j]? = some v → w'.cell? ((⟨g, o, none⟩ : Addr).add j) = some v := by
  rintro _ ⟨y, rfl⟩
  exact Blk.aggq (h.below' y.2) o vs e




theorem spec_DrawTurnoverOf_any (K : Code) (hK : K.Ok) (w : World) (hX : Rd w w.heap.size K.A 1 (byteRows K.bs)) :
    Calls Tryd.prog 6 #[.slice K.A K.n K.c] w fun e w' => ∃ (A' : Option Addr) (n' c' : Nat) (a f t : Int), e = .returned (.tuple #[.slice A' n' c', .int .i64 a, .int .i64 f, .int .i64 t]) ∧ EntriesBy w.heap.size w' A' n' c' ∧ n' ≤ 200 ∧ (In64 a ∧ In64 f ∧ In64 t) ∧ Below w.heap.size w w' := by
  go_enter Tryd.func6, Tryd.ntmps6
  go_wp2_with fail
  refine (spec_l01From_any K hK _ hX).mono ?_
  rintro e w1 ⟨g, rfl, hg, hb, hS⟩
  have hT := Nx.refl hS
  go_wp2_with (first | ((go_at_call 19; refine (spec_l22Draw_any K hK g _ _ (by first | exact hT | exact hT.alloc _ | exact (hT.alloc _).alloc _ | exact hT.drew) ).mono ?_; rintro e w3 ⟨A1, n1, c1, rfl, hE, hn1, hT⟩); have hO := hT; have hT := Nx.refl hT.src) | (go_at_call 20; refine (spec_l01Next_any K hK g _ _ _ (Nx.refl (Nx.src (by first | exact hT | exact hT.alloc _ | exact (hT.alloc _).alloc _ | exact hT.drew)))).mono ?_; rintro e w3 ⟨x, rfl, ⟨hx0, hx1⟩, hN⟩; have hT := Nx.trans (by first | exact hT | exact hT.alloc _ | exact (hT.alloc _).alloc _ | exact hT.drew) hN) | (go_at_call 21; refine (spec_l01Pick_new K hK g _ _ _ _ (by first | exact hT | exact hT.alloc _ | exact (hT.alloc _).alloc _ | exact hT.drew) (by rfl) (by decide) (by decide) (by rfl)).mono ?_; rintro e w3 ⟨x, rfl, hx, hT⟩; simp only [OneOf, Value.int.injEq, true_and, or_false] at hx) | (go_at_call 22; refine (spec_l02Draw_any K hK g _ _ (by first | exact hT | exact hT.alloc _ | exact (hT.alloc _).alloc _ | exact hT.drew) ).mono ?_; rintro e w3 ⟨y, rfl, hy, hT⟩))
  refine bodyPost_ret (v := .tuple #[.slice A1 n1 c1, .int .i64 _, .int .i64 _, .int .i64 _]) (by simp [results, Tryd.results6, go_sem]; exact ⟨rfl, rfl, rfl⟩) rfl ?_
  exact ⟨_, _, _, _, _, _, rfl, (hE.nx hT hS.lt).more hb.size, hn1, ⟨in64_of (by omega), in64_of (by omega), in64_of (by omega)⟩, hb.trans ((hO.trans hT).out hg)⟩

theorem spec_DrawAccountName_any (K : Code) (hK : K.Ok) (w : World) (hX : Rd w w.heap.size K.A 1 (byteRows K.bs)) :
    Calls Tryd.prog 9 #[.slice K.A K.n K.c] w fun e w' => ∃ a : Int, e = .returned (.int .i64 a) ∧ (-1 ≤ a ∧ a ≤ 20) ∧ Below w.heap.size w w' := by
  go_enter Tryd.func9, Tryd.ntmps9
  go_wp2_with fail
  refine (spec_l01From_any K hK _ hX).mono ?_
  rintro e w1 ⟨g, rfl, hg, hb, hS⟩
  have hT := Nx.refl hS
  go_wp2_with (go_at_call 20; refine (spec_l01Next_any K hK g _ _ _ (Nx.refl (Nx.src (by first | exact hT | exact hT.alloc _ | exact (hT.alloc _).alloc _ | exact hT.drew)))).mono ?_; rintro e w3 ⟨x, rfl, ⟨hx0, hx1⟩, hN⟩; have hT := Nx.trans (by first | exact hT | exact hT.alloc _ | exact (hT.alloc _).alloc _ | exact hT.drew) hN)
  go_ret
  exact ⟨_, rfl, by omega, hb.trans (hT.out hg)⟩
end Go.Proofs.YtoabhnobgdjgkaaDoor
