/- Appending one row: which block turns, and where the longer slice lies. No condition. -/
import Derived.Test.YtlbllonpodckgaaGreatDoorBase2
namespace Go.Proofs.YtlbllonpodckgaaGreatDoor
open Go.RowKit Go.BigFrame
/-- the block of a slice -/
def blkOf (A : Option Addr) : Option Nat := A.map (·.block)
theorem blkOf_own (A : Option Addr) (n c : Nat) : (Value.slice A n c).ownBlock = blkOf A := by cases A <;> rfl
/-- all blocks but the slice's own lie as they lay -/
def KeptBut (w w' : World) (A : Option Addr) : Prop := ∀ k, k < w.heap.size → some k ≠ blkOf A → w'.heap[k]? = w.heap[k]?
theorem Blk.kept {w w' : World} {g : Nat} {t : TypeId} {cs : Array Value} {A : Option Addr} (h : Blk w g t cs) (hk : KeptBut w w' A) (hne : some g ≠ blkOf A) : Blk w' g t cs := (hk g h.lt hne).trans h
theorem Rd.kept {w w' : World} {B sz : Nat} {A X : Option Addr} {rows : List (List Value)} (h : Rd w B X sz rows) (hk : KeptBut w w' A) (hB : B ≤ w.heap.size) (hne : ∀ k, blkOf A = some k → B ≤ k) : Rd w' B X sz rows :=
  h.keep fun p hp => World.cell?_of_block (hk p.block (by omega) (fun e => by have := hne p.block e.symm; omega))
theorem Rd.keptX {w w' : World} {B sz : Nat} {A X : Option Addr} {rows : List (List Value)} (h : Rd w B X sz rows) (hk : KeptBut w w' A) (hB : B ≤ w.heap.size) (hne : ∀ ad, X = some ad → some ad.block ≠ blkOf A) : Rd w' B X sz rows := by
  rcases h with h | ⟨ad, e, hb, hc⟩
  · exact .inl h
  · exact .inr ⟨ad, e, hb, fun k r hr => ⟨(hc k r hr).1, fun j v hv => (World.cell?_of_block (w := w) (hk (ad.add (k * sz + j)).block (by rw [block_of_add]; omega) (by rw [block_of_add]; exact hne ad e))).trans ((hc k r hr).2 j v hv)⟩⟩
theorem Res.keptBut {w w' : World} {B : Nat} {t : TypeId} {sz n cap : Nat} {A X : Option Addr} {rows : List (List Value)} (h : Res B w t sz X n cap rows) (hk : KeptBut w w' A) (hne : ∀ g, X = some ⟨g, 0, none⟩ → some g ≠ blkOf A) : Res B w' t sz X n cap rows :=
  h.keep fun g hg => hk g (h.lt hg).2 (hne g hg)
theorem wpList_append_row_at {P : Program} (w : World) {ops : Array Oper} {rest : List Oper} {o : Oper} {a : Act} {Q : Exit → Act → World → Prop} (hgd : o.guard = none) (s x : Operand) (t : TypeId)
    (ho : o.op = .call { callee := .builtin .append, args := #[s, x], argTypes := #[t, t] })
    (B : Nat) (e : TypeId) (i : TypeInfo) (z : Value) (sz bytes : Nat) (ht : P.underlying t = some (.slice e)) (hi : P.info? e = some i) (hz : i.zero = some z)
    (hsize : i.size = sz) (hby : i.bytes = bytes) (hzs : z.cells.size = sz) (hsz : 0 < sz) (hbb : bytes ≤ 4096) (A : Option Addr) (n cap : Nat) (rows : List (List Value)) (hs : a.eval s = .slice A n cap) (hR : Res B w e sz A n cap rows)
    (r : List Value) (c : Nat) (hx : a.eval x = .slice (some ⟨w.heap.size, 0, none⟩) 1 c) (hl : r.length = sz) (h1 : ∀ u ∈ r, u.oneCell' = true) (hn : n ≤ 4194304) (hB : B ≤ w.heap.size)
    (h : ∀ A' c' w', Res B w' e sz A' (n + 1) c' (rows ++ [r]) → Below B w w' → KeptBut w w' A → (blkOf A' = blkOf A ∨ blkOf A' = some (w.heap.size + 1)) → wpList P ops Q rest (a.put o.dst (.slice A' (n + 1) c')) w') : wpList P ops Q (o :: rest) a (w.alloc (.cells r.toArray e)) := by
  have hb : Below w.heap.size w (w.alloc (.cells r.toArray e)) := (Below.refl _ _).alloc (Nat.le_refl _) _
  have hR2 := hR.past hb
  have hm : (n + 1) * bytes ≤ 4194305 * 4096 := Nat.mul_le_mul (by omega) hbb
  refine wpList_plain hgd fun K hK => ?_
  obtain ⟨v', w', hrun, h2, h3, _, h5⟩ := run_append_own_at (P := P) (w.alloc (.cells r.toArray e)) B t o.type e i z sz bytes ht hi hz hsize hby hzs hsz (.slice A n cap) n rows.flatten hR2.own ⟨w.heap.size, 0, none⟩ 1 c r (by omega)
    (fun j u hu => by rw [add_none, (Blk.new w e _).cell]; simpa using hu) h1 (by unfold maxLen; omega) (by omega) (by simp; omega)
  obtain ⟨A', c', rfl⟩ := own_form w' h2
  have hkb : KeptBut w w' A := fun k hk hne => (h3.block k (by simp; omega) (by rw [blkOf_own]; exact hne)).trans (Below.heap_alloc w _ k hk)
  have hbe : Below B w w' := (hb.mono hB).trans ((Below.refl _ _).grown h3 (by simp; omega) fun k hk => (hR2.own.lt k hk).1)
  unfold Oper.wp execOp
  simp only [ho, resolve, invoke, builtin, Sem.run_bind, Sem.run_pure, Result.andThen_ok, List.map_toArray, List.map_cons, List.map_nil, hs, hx, hrun]
  refine hK _ _ (h A' c' w' ⟨by simpa using h2, by simp [hR.len], fun r' hr' => ?_⟩ hbe hkb ?_)
  · rcases List.mem_append.1 hr' with h' | h'
    · exact hR.all r' h'
    · simp only [List.mem_singleton] at h'; rw [h']; exact hl
  · rw [blkOf_own, blkOf_own] at h5; simpa using h5
end Go.Proofs.YtlbllonpodckgaaGreatDoor
