/- A ladder of bonds: what the program's loop keeps in memory; an append in a round of a loop over an iterator. -/
import Derived.Test.YtlbllonpodckgaaLadderI
import Derived.Test.YtlbllonpodckgaaApp
import Derived.Test.YtlbllonpodckgaaStBond
namespace Go.Proofs.Ytlbllonpodckgaa
open Go.RowKit Go.Shelf Go.BigFrame

theorem Blk.own {w w' : World} {g : Nat} {t : TypeId} {cs : Array Value} {row : Option Nat} (h : Blk w g t cs) (hg : w.grownBy w' row) (hr : ∀ r, row = some r → ∃ o : Obj, w.heap[r]? = some o ∧ o.isCells = false) : Blk w' g t cs := by
  refine (hg.block g h.lt fun e => ?_).trans h
  obtain ⟨o, ho, hc⟩ := hr g e.symm
  rw [show w.heap[g]? = some (.cells cs t (0, 0)) from h] at ho
  injection ho with ho
  subst ho
  cases hc
theorem Res.form {w : World} {B sz n cap : Nat} {t : TypeId} {A : Option Addr} {rows : List (List Value)} (h : Res B w t sz A n cap rows) : A = none ∨ ∃ g cur, A = some ⟨g, 0, none⟩ ∧ B ≤ g ∧ Blk w g t cur := by
  rcases h.own.2 with ⟨e, _⟩ | ⟨g, c, cur, e, hb, hh, _⟩
  · injection e with e; exact .inl e
  · injection e with e; exact .inr ⟨g, cur, e, hb, hh⟩
theorem Res.owned {w w' : World} {B sz n cap : Nat} {t : TypeId} {A : Option Addr} {rows : List (List Value)} {row : Option Nat} (h : Res B w t sz A n cap rows) (hg : w.grownBy w' row) (hr : ∀ r, row = some r → ∃ o : Obj, w.heap[r]? = some o ∧ o.isCells = false) : Res B w' t sz A n cap rows := by
  refine h.keep fun g hA => ?_
  rcases h.form with e | ⟨g', cur, e, _, hb⟩
  · rw [e] at hA; cases hA
  · rw [hA] at e; injection e with e; injection e with e; subst e
    exact (hb.own hg hr).trans hb.symm
theorem Res.apart {w : World} {B sz n cap g : Nat} {t t' : TypeId} {A : Option Addr} {rows : List (List Value)} {cs : Array Value} (h : Res B w t sz A n cap rows) (hb : Blk w g t' cs) (hne : t' ≠ t) : some g ≠ blkOf A := by
  intro e
  rcases h.form with e2 | ⟨g', cur, e2, _, hb2⟩
  · rw [e2] at e; cases e
  · rw [e2] at e
    have hgg : g = g' := by injection e
    subst hgg
    have h3 := Option.some.inj (hb.symm.trans hb2)
    injection h3 with _ h4
    exact hne h4
theorem KeepsOthers.blkOf {w w' : World} {B sz n cap : Nat} {t : TypeId} {A : Option Addr} {rows : List (List Value)} (h : Res B w t sz A n cap rows) (hg : w.grownBy w' (blkOf A)) : KeepsOthers w w' :=
  KeepsOthers.of_grownBy hg fun j o e ho => by
    rcases h.form with e2 | ⟨g', cur, e2, _, hb2⟩
    · rw [e2] at e; cases e
    · rw [e2] at e
      have hgg : g' = j := by injection e
      subst hgg
      have h3 := Option.some.inj (ho.symm.trans hb2)
      rw [h3]; rfl
theorem wpListIn_append_row_at {F : Fence} {n' : Nat} {P : Program} (w : World) {ops : Array Oper} {rest : List Oper} {o : Oper} {a : Act} {Q : Exit → Act → World → Prop} (hgd : o.guard = none) (s x : Operand) (t : TypeId)
    (ho : o.op = .call { callee := .builtin .append, args := #[s, x], argTypes := #[t, t] })
    (B : Nat) (e : TypeId) (i : TypeInfo) (z : Value) (sz bytes : Nat) (ht : P.underlying t = some (.slice e)) (hi : P.info? e = some i) (hz : i.zero = some z)
    (hsize : i.size = sz) (hby : i.bytes = bytes) (hzs : z.cells.size = sz) (hsz : 0 < sz) (hbb : bytes ≤ 4096) (A : Option Addr) (n cap : Nat) (rows : List (List Value)) (hs : a.eval s = .slice A n cap) (hR : Res B w e sz A n cap rows)
    (r : List Value) (c : Nat) (hx : a.eval x = .slice (some ⟨w.heap.size, 0, none⟩) 1 c) (hl : r.length = sz) (h1 : ∀ u ∈ r, u.oneCell' = true) (hn : n ≤ 4194304) (hB : B ≤ w.heap.size)
    (h : ∀ A' c' w', Res B w' e sz A' (n + 1) c' (rows ++ [r]) → Below B w w' → KeptBut w w' A → KeepsOthers w w' → wpListIn F n' P ops Q rest (a.put o.dst (.slice A' (n + 1) c')) w') : wpListIn F n' P ops Q (o :: rest) a (w.alloc (.cells r.toArray e)) := by
  have hb : Below w.heap.size w (w.alloc (.cells r.toArray e)) := (Below.refl _ _).alloc (Nat.le_refl _) _
  have hR2 := hR.past hb
  have hm : (n + 1) * bytes ≤ 4194305 * 4096 := Nat.mul_le_mul (by omega) hbb
  refine wpListIn_append_own _ hgd s x t ho B e i z sz bytes ht hi hz hsize hby hzs hsz (.slice A n cap) n rows.flatten hs hR2.own ⟨w.heap.size, 0, none⟩ 1 c r hx (by omega)
    (fun j u hu => by rw [add_none, (Blk.new w e _).cell]; simpa using hu) h1 (by unfold maxLen; omega) (by omega) (by simp; omega) ?_
  intro v' w' h2 h3 _
  obtain ⟨A', c', rfl⟩ := own_form w' h2
  have hkb : KeptBut w w' A := fun k hk hne => (h3.block k (by simp; omega) (by rw [blkOf_own]; exact hne)).trans (Below.heap_alloc w _ k hk)
  have hbe : Below B w w' := (hb.mono hB).trans ((Below.refl _ _).grown h3 (by simp; omega) fun k hk => (hR2.own.lt k hk).1)
  refine h A' c' w' ⟨by simpa using h2, by simp [hR.len], fun r' hr' => ?_⟩ hbe hkb ((KeepsOthers.alloc _ _).trans (KeepsOthers.blkOf hR2 (by rw [← blkOf_own]; exact h3)))
  rcases List.mem_append.1 hr' with h' | h'
  · exact hR.all r' h'
  · simp only [List.mem_singleton] at h'; rw [h']; exact hl

/-- what lies in memory between two rounds: the ladder so far, its coupons, the coupon, the iterator's slice -/
def LadI (gc go gl gi : Nat) (A : Option Addr) (n cap : Nat) (c : Int) (w : World) (S : List Bond × Int) (W : World) : Prop :=
  (∃ A' m c', Blk W go 34 #[.slice A' m c'] ∧ Res w.heap.size W 66 3 A' m c' (bondRows S.1)) ∧ Blk W gl 2 #[.int .i64 S.2] ∧ Blk W gc 2 #[.int .i64 c] ∧ Blk W gi 33 #[.slice A n cap]
theorem LadI.own {gc go gl gi : Nat} {A : Option Addr} {n cap : Nat} {c : Int} {w : World} {β : Type} {f : β → List Bond × Int} : Own (fun (b : β) W => LadI gc go gl gi A n cap c w (f b) W) := by
  rintro s W W' row ⟨⟨A', m, c', h1, h2⟩, h3, h4, h5⟩ hg hr
  exact ⟨⟨A', m, c', h1.own hg hr, h2.owned hg hr⟩, h3.own hg hr, h4.own hg hr, h5.own hg hr⟩
theorem LadI.drew {gc go gl gi : Nat} {A : Option Addr} {n cap : Nat} {c : Int} {w W : World} {S : List Bond × Int} (h : LadI gc go gl gi A n cap c w S W) : LadI gc go gl gi A n cap c w S W.drew := by
  obtain ⟨⟨A', m, c', h1, h2⟩, h3, h4, h5⟩ := h
  exact ⟨⟨A', m, c', h1, h2.drew⟩, h3, h4, h5⟩
end Go.Proofs.Ytlbllonpodckgaa
