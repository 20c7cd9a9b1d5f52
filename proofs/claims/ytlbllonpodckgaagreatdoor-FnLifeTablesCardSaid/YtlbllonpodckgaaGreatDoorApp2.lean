/- Appending one row as a step of a region that draws its order: which block turns, and where the longer slice lies. No condition. -/
import Derived.Test.YtlbllonpodckgaaGreatDoorApp
namespace Go.Proofs.YtlbllonpodckgaaGreatDoor
open Go.RowKit Go.BigFrame
/-- the row lies whole in a block of its own -/
theorem step_append_row_at {P : Program} {ops : Array Oper} {o : Oper} {a : Act} {w : World} {K : Act → World → Prop} {Q : Exit → Act → World → Prop} {E : Prop} (hg : o.guard = none) (s x : Operand) (t : TypeId)
    (ho : o.op = .call { callee := .builtin .append, args := #[s, x], argTypes := #[t, t] })
    (B : Nat) (e : TypeId) (i : TypeInfo) (z : Value) (sz bytes : Nat) (ht : P.underlying t = some (.slice e)) (hi : P.info? e = some i) (hz : i.zero = some z)
    (hsize : i.size = sz) (hby : i.bytes = bytes) (hzs : z.cells.size = sz) (hsz : 0 < sz) (hbb : bytes ≤ 4096) (A : Option Addr) (n cap : Nat) (rows : List (List Value)) (hs : a.eval s = .slice A n cap) (hR : Res B w e sz A n cap rows)
    (r : List Value) (g c tg : Nat) (hx : a.eval x = .slice (some ⟨g, 0, none⟩) 1 c) (hG : Blk w g tg r.toArray) (hl : r.length = sz) (h1 : ∀ u ∈ r, u.oneCell' = true) (hn : n ≤ 4194304) (hB : B ≤ w.heap.size)
    (h : ∀ A' c' w', Res B w' e sz A' (n + 1) c' (rows ++ [r]) → Below B w w' → KeptBut w w' A → (blkOf A' = blkOf A ∨ blkOf A' = some w.heap.size) → K (a.put o.dst (.slice A' (n + 1) c')) w') :
    if Region.wanted o (yielded ops a.tmps) = true then Oper.wp P o a w K Q else E := by
  have hw : Region.wanted o (yielded ops a.tmps) = true := by simp [Region.wanted, hg]
  rw [if_pos hw]
  have hm : (n + 1) * bytes ≤ 4194305 * 4096 := Nat.mul_le_mul (by omega) hbb
  obtain ⟨v', w', hrun, h2, h3, _, h5⟩ := run_append_own_at (P := P) w B t o.type e i z sz bytes ht hi hz hsize hby hzs hsz (.slice A n cap) n rows.flatten hR.own ⟨g, 0, none⟩ 1 c r (by omega)
    (fun j u hu => by rw [add_none, hG.cell]; simpa using hu) h1 (by unfold maxLen; omega) (by omega) hB
  obtain ⟨A', c', rfl⟩ := own_form w' h2
  have hkb : KeptBut w w' A := fun k hk hne => h3.block k hk (by rw [blkOf_own]; exact hne)
  have hbe : Below B w w' := (Below.refl _ _).grown h3 hB fun k hk => (hR.own.lt k hk).1
  unfold Oper.wp execOp
  simp only [ho, resolve, invoke, builtin, Sem.run_bind, Sem.run_pure, Result.andThen_ok, List.map_toArray, List.map_cons, List.map_nil, hs, hx, hrun]
  refine h A' c' w' ⟨by simpa using h2, by simp [hR.len], fun r' hr' => ?_⟩ hbe hkb ?_
  · rcases List.mem_append.1 hr' with h' | h'
    · exact hR.all r' h'
    · simp only [List.mem_singleton] at h'; rw [h']; exact hl
  · rw [blkOf_own, blkOf_own] at h5; exact h5
end Go.Proofs.YtlbllonpodckgaaGreatDoor
