/- Parts of a proof, one after another: Base, Base2, App, App2. No condition. -/
import Derived.Test.YtkdfdbcpbgganaaGreatDoorRows
import Derived.WalkKit
import Derived.WalkSpells
import Derived.WalkLawsBesides
import Derived.BigQuiet
import Derived.Deep.QuietTactic
import Derived.Deep.RegionHeld3
import Derived.Deep.LoopGhost
import Derived.Deep.Draws
import Derived.Laws.OwnMore
import Derived.Maps.AppendAt
import Derived.Deep.AppendLies
import Derived.Lib.Hide
import Derived.Outline
/- Words for memory that all walks of this seat share: a slice that reads as a list of rows, a block that is known whole, and laws for loading and storing a struct inside a slice. No condition. -/
section
namespace Go.Proofs.YtkdfdbcpbgganaaGreatDoor
open Go.RowKit Go.BigFrame

theorem run_make_rowN {P : Program} (t e : TypeId) (i : TypeInfo) (z : Value) (ht : P.underlying t = some (.slice e)) (hi : P.info? e = some i) (hz : i.zero = some z)
    (kl kc : IntKind) (n c : Nat) (hnc : n ≤ c) (hbytes : i.bytes * c ≤ 281474976710656) (h63 : c ≤ 9223372036854775807) (w : World) :
    (Instr.makeSlice t (.int kl (n : Int)) (.int kc (c : Int))).run P w = .ok (.slice (some ⟨w.heap.size, 0, none⟩) n c) (w.alloc (.cells (madeCells z.cells (c * i.size)) e)) := by
  have hb : (i.bytes : Int) * (c : Int) ≤ 281474976710656 := by
    have h : ((i.bytes * c : Nat) : Int) ≤ 281474976710656 := by omega
    rwa [Int.natCast_mul] at h
  have hr := run_make (P := P) w t e i z ht hi hz kl kc n c (by omega) (by omega) hb (by omega)
  simp only [Int.toNat_natCast] at hr
  exact hr

theorem block_of_add (a : Addr) (n : Nat) : (a.add n).block = a.block := by unfold Addr.add; split <;> rfl
theorem add_of_add (a : Addr) (i j : Nat) : (a.add i).add j = a.add (i + j) := by
  unfold Addr.add
  by_cases hi : i = 0 <;> by_cases hj : j = 0 <;> simp [hi, hj, Nat.add_assoc]
theorem add_none (b o n : Nat) : (⟨b, o, none⟩ : Addr).add n = ⟨b, o + n, none⟩ := by unfold Addr.add; split <;> simp_all

/-! ### a block that is known whole -/
def Blk (w : World) (g : Nat) (t : TypeId) (cs : Array Value) : Prop := w.heap[g]? = some (.cells cs t (0, 0))

section
variable {w w' : World} {g : Nat} {t : TypeId} {cs : Array Value}
theorem Blk.lt (h : Blk w g t cs) : g < w.heap.size := by
  rcases Nat.lt_or_ge g w.heap.size with hlt | hge
  · exact hlt
  · unfold Blk at h; rw [Array.getElem?_eq_none hge] at h; cases h
theorem Blk.cell (h : Blk w g t cs) (i : Nat) : w.cell? ⟨g, i, none⟩ = cs[i]? := cell_of_row w g i cs t (0, 0) h
theorem Blk.frozen (h : Blk w g t cs) (i : Nat) : w.frozen? ⟨g, i, none⟩ = false := by
  unfold Blk at h
  simp [World.frozen?, h]
theorem Blk.new (w : World) (t : TypeId) (cs : Array Value) : Blk (w.alloc (.cells cs t)) w.heap.size t cs := heap_alloc_new w _
theorem Blk.drew (h : Blk w g t cs) : Blk w.drew g t cs := h
theorem Blk.drewN (h : Blk w g t cs) (n : Nat) : Blk (w.drewN n) g t cs := h
theorem Blk.alloc (h : Blk w g t cs) (o : Obj) : Blk (w.alloc o) g t cs := (Below.heap_alloc w o g h.lt).trans h
theorem Blk.set_ (h : Blk w g t cs) (i : Nat) (u : Value) : Blk (w.setCell ⟨g, i, none⟩ u) g t (cs.setIfInBounds i u) := by
  unfold Blk at h ⊢
  simp [World.setCell, Array.getElem?_modify, h]
theorem Blk.far (h : Blk w g t cs) {p : Addr} (hp : g ≠ p.block) (u : Value) : Blk (w.setCell p u) g t cs := (Below.heap_setCell w p u g hp).trans h
theorem Blk.below {B : Nat} (h : Blk w g t cs) (hb : Below B w w') (hg : g < B) : Blk w' g t cs := (hb.block g hg).trans h
theorem Blk.below' (h : Blk w g t cs) (hb : Below w.heap.size w w') : Blk w' g t cs := h.below hb h.lt
theorem Blk.grown {row : Option Nat} (h : Blk w g t cs) (hb : w.grownBy w' row) (hg : some g ≠ row) : Blk w' g t cs := (hb.block g h.lt hg).trans h
end

theorem bcell {W w1 : World} {B : Nat} (hb : Below B W w1) : (∀ b o, b < B → w1.cell? ⟨b, o, none⟩ = W.cell? ⟨b, o, none⟩) ∧ (∀ b o, b < B → w1.frozen? ⟨b, o, none⟩ = W.frozen? ⟨b, o, none⟩) :=
  ⟨fun b o h => hb.cell (p := ⟨b, o, none⟩) h, fun b o h => hb.frozen (p := ⟨b, o, none⟩) h⟩
theorem below_drewN {B : Nat} {a w : World} (h : Below B a w) (n : Nat) : Below B a (w.drewN n) := ⟨h.os, h.tape, h.output, h.size, h.block⟩
theorem below_grown {w w' : World} {g : Nat} (h : w.grownBy w' (some g)) (hg : g ≤ w.heap.size) : Below g w w' :=
  ⟨h.os, h.tape, h.output, h.size, fun i hi => h.block i (by omega) (fun e => by injection e with e; omega)⟩

/-! ### a slice that reads as a list of rows: row k lies at 'k * sz' behind the slice's head -/
def Rd (w : World) (B : Nat) (A : Option Addr) (sz : Nat) (rows : List (List Value)) : Prop :=
  rows = [] ∨ ∃ ad, A = some ad ∧ ad.block < B ∧ ∀ (k : Nat) (r : List Value), rows[k]? = some r → r.length = sz ∧ ∀ (j : Nat) (v : Value), r[j]? = some v → w.cell? (ad.add (k * sz + j)) = some v

section
variable {w w' : World} {B B' sz : Nat} {A : Option Addr} {rows : List (List Value)}
theorem Rd.nil_ : Rd w B A sz [] := .inl rfl
theorem Rd.keep (h : Rd w B A sz rows) (hk : ∀ p : Addr, p.block < B → w'.cell? p = w.cell? p) : Rd w' B A sz rows := by
  rcases h with h | ⟨ad, e, hb, hc⟩
  · exact .inl h
  · exact .inr ⟨ad, e, hb, fun k r hr => ⟨(hc k r hr).1, fun j v hv => (hk _ (by rw [block_of_add]; exact hb)).trans ((hc k r hr).2 j v hv)⟩⟩
theorem Rd.more (h : Rd w B A sz rows) (hB : B ≤ B') : Rd w B' A sz rows := by
  rcases h with h | ⟨ad, e, hb, hc⟩
  · exact .inl h
  · exact .inr ⟨ad, e, by omega, hc⟩
theorem Rd.below (h : Rd w B A sz rows) (hb : Below B w w') : Rd w' B A sz rows := h.keep fun _ hp => hb.cell hp
/-- behind a call that has left all that was there -/
theorem Rd.past (h : Rd w w.heap.size A sz rows) (hb : Below w.heap.size w w') : Rd w' w'.heap.size A sz rows := (h.below hb).more hb.size
theorem Rd.drew (h : Rd w B A sz rows) : Rd w.drew B A sz rows := h
theorem Rd.drewN (h : Rd w B A sz rows) (n : Nat) : Rd (w.drewN n) B A sz rows := h
theorem Rd.alloc (h : Rd w B A sz rows) (hB : B ≤ w.heap.size) (o : Obj) : Rd (w.alloc o) B A sz rows := h.keep fun p hp => World.cell?_alloc_lt w o p (by omega)
theorem Rd.setCell (h : Rd w B A sz rows) {p : Addr} (hB : B ≤ p.block) (u : Value) : Rd (w.setCell p u) B A sz rows :=
  h.keep fun q hq => World.cell?_setCell_other w p q u (fun e => by subst e; omega)
/-- only block g has turned, and the slice does not lie there -/
theorem Rd.grown (h : Rd w B A sz rows) {g : Nat} (hB : B ≤ w.heap.size) (hg : w.grownBy w' (some g)) (hne : ∀ ad, A = some ad → rows ≠ [] → ad.block ≠ g) : Rd w' B A sz rows := by
  rcases h with h | ⟨ad, e, hb, hc⟩
  · exact .inl h
  · by_cases hr0 : rows = []
    · exact .inl hr0
    · exact .inr ⟨ad, e, hb, fun k r hr => ⟨(hc k r hr).1, fun j v hv => (World.cell?_of_block (w := w) (hg.block (ad.add (k * sz + j)).block (by rw [block_of_add]; omega) (by
        rw [block_of_add]; intro e'; injection e' with e'; exact hne ad e hr0 e'))).trans ((hc k r hr).2 j v hv)⟩⟩
theorem Rd.at_ (h : Rd w B A sz rows) {k : Nat} {r : List Value} (hr : rows[k]? = some r) :
    ∃ ad, A = some ad ∧ ad.block < B ∧ r.length = sz ∧ ∀ (j : Nat) (v : Value), r[j]? = some v → w.cell? (ad.add (k * sz + j)) = some v := by
  rcases h with h | ⟨ad, e, hb, hc⟩
  · subst h; simp at hr
  · exact ⟨ad, e, hb, (hc k r hr).1, (hc k r hr).2⟩
theorem Rd.at' (h : Rd w B A sz rows) {k : Nat} {r : List Value} (hr : rows[k]? = some r) :
    ∃ ad, A = some ad ∧ ad.block < B ∧ r.length = sz ∧ ∀ (j : Nat) (v : Value), r[j]? = some v → w.cell? ((ad.add (k * sz)).add j) = some v := by
  obtain ⟨ad, e, hb, hl, hc⟩ := h.at_ hr
  exact ⟨ad, e, hb, hl, fun j v hv => by rw [add_of_add]; exact hc j v hv⟩
/-- a part of the slice from place i on -/
theorem Rd.cut (h : Rd w B A sz rows) (i : Nat) : Rd w B (A.map (·.add (i * sz))) sz (rows.drop i) := by
  rcases h with h | ⟨ad, rfl, hb, hc⟩
  · subst h; simp; exact .inl rfl
  · refine .inr ⟨ad.add (i * sz), rfl, by rw [block_of_add]; exact hb, fun k r hr => ?_⟩
    rw [List.getElem?_drop] at hr
    refine ⟨(hc _ r hr).1, fun j v hv => ?_⟩
    rw [add_of_add, show i * sz + (k * sz + j) = (i + k) * sz + j by rw [Nat.add_mul]; omega]
    exact (hc _ r hr).2 j v hv
theorem Rd.take (h : Rd w B A sz rows) (i : Nat) : Rd w B A sz (rows.take i) := by
  rcases h with h | ⟨ad, rfl, hb, hc⟩
  · subst h; simp; exact .inl rfl
  · refine .inr ⟨ad, rfl, hb, fun k r hr => hc k r ?_⟩
    rw [List.getElem?_take] at hr
    split at hr
    · exact hr
    · cases hr
end

/-- a list of int64 as rows of one cell -/
def intRows (xs : List Int) : List (List Value) := xs.map fun x => [Value.int .i64 x]
theorem intRows_length (xs : List Int) : (intRows xs).length = xs.length := by simp [intRows]
theorem intRows_get {xs : List Int} {k : Nat} {x : Int} (h : xs[k]? = some x) : (intRows xs)[k]? = some [Value.int .i64 x] := by simp [intRows, h]
theorem Rd.int_at {w : World} {B : Nat} {A : Option Addr} {xs : List Int} (h : Rd w B A 1 (intRows xs)) {k : Nat} {x : Int} (hx : xs[k]? = some x) :
    ∃ ad, A = some ad ∧ ad.block < B ∧ w.cell? (ad.add k) = some (.int .i64 x) := by
  obtain ⟨ad, e, hb, _, hc⟩ := h.at_ (intRows_get hx)
  exact ⟨ad, e, hb, by simpa using hc 0 _ rfl⟩
theorem get_of_lt {α : Type} {xs : List α} {k : Nat} (h : k < xs.length) : ∃ x, xs[k]? = some x := ⟨xs[k], List.getElem?_eq_getElem h⟩

/-! ### cells that are filled row by row -/
def Filled (cs : Array Value) (sz : Nat) (rows : List (List Value)) (k : Nat) : Prop := ∀ (i : Nat) (r : List Value), i < k → rows[i]? = some r → ∀ (j : Nat) (v : Value), r[j]? = some v → cs[i * sz + j]? = some v
def putAt (cs : Array Value) (o : Nat) (vs : List Value) : Array Value := (cs.toList.take o ++ vs ++ cs.toList.drop (o + vs.length)).toArray
theorem putAt_size {cs : Array Value} {o : Nat} {vs : List Value} (h : o + vs.length ≤ cs.size) : (putAt cs o vs).size = cs.size := by
  simp [putAt]; omega
theorem putAt_get {cs : Array Value} {o : Nat} {vs : List Value} (h : o + vs.length ≤ cs.size) (i : Nat) :
    (putAt cs o vs)[i]? = if i < o then cs[i]? else if i < o + vs.length then vs[i - o]? else cs[i]? := by
  unfold putAt
  rw [List.getElem?_toArray]
  by_cases h1 : i < o
  · rw [if_pos h1, List.append_assoc, List.getElem?_append_left (by simp; omega), List.getElem?_take, if_pos h1]; simp
  · rw [if_neg h1]
    by_cases h2 : i < o + vs.length
    · rw [if_pos h2, List.append_assoc, List.getElem?_append_right (by simp; omega), List.getElem?_append_left (by simp; omega)]
      congr 1; simp; omega
    · rw [if_neg h2, List.getElem?_append_right (by simp; omega), List.getElem?_drop]
      rw [show o + vs.length + (i - (List.take o cs.toList ++ vs).length) = i by simp; omega]
      simp
theorem Filled.zero {cs : Array Value} {sz : Nat} {rows : List (List Value)} : Filled cs sz rows 0 := fun _ _ h => absurd h (by omega)
theorem Filled.step {cs : Array Value} {sz : Nat} {rows : List (List Value)} {k : Nat} {r : List Value} (h : Filled cs sz rows k) (hr : rows[k]? = some r) (hl : r.length = sz)
    (hall : ∀ r' ∈ rows, r'.length = sz) (hfit : k * sz + sz ≤ cs.size) : Filled (putAt cs (k * sz) r) sz rows (k + 1) := by
  intro i r' hi hr' j v hv
  have hj : j < r'.length := (List.getElem?_eq_some_iff.1 hv).1
  have hl' := hall r' (List.mem_of_getElem? hr')
  rw [putAt_get (by omega)]
  by_cases hik : i = k
  · subst hik
    rw [hr] at hr'; injection hr' with e; subst e
    rw [if_neg (by omega), if_pos (by omega), show i * sz + j - i * sz = j by omega]; exact hv
  · have hlt : i < k := by omega
    have : (i + 1) * sz ≤ k * sz := Nat.mul_le_mul_right _ (by omega)
    rw [Nat.add_mul] at this
    rw [if_pos (by omega)]
    exact h i r' hlt hr' j v hv
theorem Filled.rd {w : World} {g : Nat} {t : TypeId} {cs : Array Value} {sz : Nat} {rows : List (List Value)} (hb : Blk w g t cs) (h : Filled cs sz rows rows.length) (hall : ∀ r ∈ rows, r.length = sz) :
    Rd w w.heap.size (some ⟨g, 0, none⟩) sz rows := by
  refine .inr ⟨⟨g, 0, none⟩, rfl, hb.lt, fun k r hr => ⟨hall r (List.mem_of_getElem? hr), fun j v hv => ?_⟩⟩
  rw [add_none, hb.cell, Nat.zero_add]
  exact h k r (List.getElem?_eq_some_iff.1 hr).1 hr j v hv

/-! ### laws: a struct loaded from, stored into, a slice -/
section
variable {P : Program}
theorem run_loadVar_agg (w : World) (ty : TypeId) (p : Addr) (cs : List Value) (d : TypeDesc) (hc : ∀ (j : Nat) (v : Value), cs[j]? = some v → w.cell? (p.add j) = some v)
    (hu : P.underlying ty = some d) (hd : (match d with | .struct _ | .array _ _ => true | _ => false) = true) (hi : (P.info? ty).map (·.size) = some cs.length) :
    (loadVar ty p).run P w = .ok (.agg cs.toArray) w := by
  have hl := run_loadCells_list (P := P) w p cs hc
  cases hq : P.info? ty with
  | none => simp [hq] at hi
  | some i =>
    have hs : i.size = cs.length := by simpa [hq] using hi
    have hagg : (isAgg ty).run P w = .ok true w := by
      unfold isAgg
      rw [Sem.run_bind, run_underlying hu w]
      cases d <;> simp_all
    simp [loadVar, Sem.run_bind, hagg, sizeOf, typeInfo, hq, hs, hl]
theorem wp_load_agg {o : Oper} {a : Act} {w : World} {K : Act → World → Prop} {Q : Exit → Act → World → Prop} (ty : TypeId) (x : Operand) (ho : o.op = .load ty x)
    (p : Addr) (hx : a.eval x = .pointer (some p)) (cs : List Value) (hc : ∀ (j : Nat) (v : Value), cs[j]? = some v → w.cell? (p.add j) = some v) (d : TypeDesc)
    (hu : P.underlying ty = some d) (hd : (match d with | .struct _ | .array _ _ => true | _ => false) = true) (hi : (P.info? ty).map (·.size) = some cs.length)
    (h : K (a.put o.dst (.agg cs.toArray)) w) : o.wp P a w K Q := by
  unfold Oper.wp execOp
  simp only [ho, hx, Instr.loadAt, Instr.sureAddr, Sem.run_bind, Sem.run_pure, Result.andThen_ok, run_loadVar_agg w ty p cs d hc hu hd hi]
  exact h
theorem wpList_load_agg {ops : Array Oper} {rest : List Oper} {o : Oper} {a : Act} {w : World} {Q : Exit → Act → World → Prop} (hgd : o.guard = none) (ty : TypeId) (x : Operand) (ho : o.op = .load ty x)
    (p : Addr) (hx : a.eval x = .pointer (some p)) (cs : List Value) (hc : ∀ (j : Nat) (v : Value), cs[j]? = some v → w.cell? (p.add j) = some v) (d : TypeDesc)
    (hu : P.underlying ty = some d) (hd : (match d with | .struct _ | .array _ _ => true | _ => false) = true) (hi : (P.info? ty).map (·.size) = some cs.length)
    (h : wpList P ops Q rest (a.put o.dst (.agg cs.toArray)) w) : wpList P ops Q (o :: rest) a w :=
  wpList_plain hgd fun _ hK => wp_load_agg ty x ho p hx cs hc d hu hd hi (hK _ _ h)

theorem run_storeVar_agg (w : World) (g o : Nat) (t ty : TypeId) (cur : Array Value) (vs : List Value) (hg : Blk w g t cur) (hi : (P.info? ty).map (·.size) = some vs.length)
    (hfit : o + vs.length ≤ cur.size) (h1 : ∀ v ∈ vs, v.oneCell' = true) :
    (storeVar ty ⟨g, o, none⟩ (.agg vs.toArray)).run P w = .ok () (w.setRow g (putAt cur o vs)) := by
  have := run_storeCells_at P g o t vs 0 cur w hg (by simpa using hfit) h1
  cases hq : P.info? ty with
  | none => simp [hq] at hi
  | some i =>
    have hs : vs.length = i.size := by simp [hq] at hi; omega
    simp [storeVar, sizeOf, typeInfo, hq, Value.cells, hs, this, putAt]
theorem setRow_grown (w : World) (g : Nat) (cs : Array Value) : w.grownBy (w.setRow g cs) (some g) :=
  ⟨rfl, rfl, rfl, by simp, fun i _ hne => setRow_other w g i cs (fun e => hne (by rw [e]))⟩
theorem wp_store_agg {o : Oper} {a : Act} {w : World} {K : Act → World → Prop} {Q : Exit → Act → World → Prop} (ty : TypeId) (x y : Operand) (ho : o.op = .store ty x y)
    (g off : Nat) (vs : List Value) (hx : a.eval x = .pointer (some ⟨g, off, none⟩)) (hy : a.eval y = .agg vs.toArray)
    (t : TypeId) (cur : Array Value) (hg : Blk w g t cur) (hi : (P.info? ty).map (·.size) = some vs.length)
    (hfit : off + vs.length ≤ cur.size) (h1 : ∀ v ∈ vs, v.oneCell' = true)
    (h : ∀ w', Blk w' g t (putAt cur off vs) → w.grownBy w' (some g) → w'.heap.size = w.heap.size → K (a.put o.dst undef) w') : o.wp P a w K Q := by
  unfold Oper.wp execOp
  simp only [ho, hx, hy, Instr.storeAt, Instr.sureAddr, Sem.run_bind, Sem.run_pure, Result.andThen_ok, run_storeVar_agg w g off t ty cur vs hg hi hfit h1]
  exact h _ (setRow_heap w g cur _ t _ hg) (setRow_grown w g _) (by simp)
theorem wpList_store_agg {ops : Array Oper} {rest : List Oper} {o : Oper} {a : Act} {w : World} {Q : Exit → Act → World → Prop} (hgd : o.guard = none) (ty : TypeId) (x y : Operand) (ho : o.op = .store ty x y)
    (g off : Nat) (vs : List Value) (hx : a.eval x = .pointer (some ⟨g, off, none⟩)) (hy : a.eval y = .agg vs.toArray)
    (t : TypeId) (cur : Array Value) (hg : Blk w g t cur) (hi : (P.info? ty).map (·.size) = some vs.length)
    (hfit : off + vs.length ≤ cur.size) (h1 : ∀ v ∈ vs, v.oneCell' = true)
    (h : ∀ w', Blk w' g t (putAt cur off vs) → w.grownBy w' (some g) → w'.heap.size = w.heap.size → wpList P ops Q rest (a.put o.dst undef) w') : wpList P ops Q (o :: rest) a w :=
  wpList_plain hgd fun _ hK => wp_store_agg ty x y ho g off vs hx hy t cur hg hi hfit h1 fun w' h2 h3 h4 => hK _ _ (h w' h2 h3 h4)
end

/-! ### rows laid end to end -/
theorem flat_length {sz : Nat} : ∀ {rows : List (List Value)}, (∀ r ∈ rows, r.length = sz) → rows.flatten.length = rows.length * sz
  | [], _ => by simp
  | r :: rest, h => by
    have := flat_length (rows := rest) (sz := sz) (fun r hr => h r (by simp [hr]))
    have h1 := h r (by simp)
    simp [this, h1, Nat.add_mul]; omega
theorem flat_get {sz : Nat} : ∀ {rows : List (List Value)} (_ : ∀ r ∈ rows, r.length = sz) {k : Nat} {r : List Value} (_ : rows[k]? = some r) {j : Nat} (_ : j < sz), rows.flatten[k * sz + j]? = r[j]?
  | [], _, k, r, hr, _, _ => by simp at hr
  | r0 :: rest, h, 0, r, hr, j, hj => by
    have h1 := h r0 (by simp)
    simp only [List.getElem?_cons_zero, Option.some.injEq] at hr
    subst hr
    simp only [List.flatten_cons, Nat.zero_mul, Nat.zero_add]
    rw [List.getElem?_append_left (by omega)]
  | r0 :: rest, h, k + 1, r, hr, j, hj => by
    have h1 := h r0 (by simp)
    simp only [List.getElem?_cons_succ] at hr
    have ih := flat_get (rows := rest) (sz := sz) (fun r hr => h r (by simp [hr])) hr hj
    simp only [List.flatten_cons]
    rw [List.getElem?_append_right (by rw [Nat.add_mul]; omega), h1, show (k + 1) * sz + j - sz = k * sz + j by rw [Nat.add_mul]; omega]
    exact ih

/-! ### a slice that a call has made: it lies in a block of its own from B on, and holds these rows -/
structure Res (B : Nat) (w : World) (t : TypeId) (sz : Nat) (A : Option Addr) (n cap : Nat) (rows : List (List Value)) : Prop where
  own : w.ownsRow B t sz (.slice A n cap) n rows.flatten
  len : rows.length = n
  all : ∀ r ∈ rows, r.length = sz
section
variable {w w' : World} {B sz n cap : Nat} {t : TypeId} {A : Option Addr} {rows : List (List Value)}
theorem Res.at_ (h : Res B w t sz A n cap rows) (hn : 0 < n) : ∃ g cs, A = some ⟨g, 0, none⟩ ∧ B ≤ g ∧ Blk w g t cs ∧ n * sz ≤ cs.size ∧ ∀ j : Nat, j < n * sz → cs[j]? = rows.flatten[j]? := by
  rcases h.own.2 with ⟨_, h0⟩ | ⟨g, cap', cur, e, hb, hh, hnc, _, hs, ht⟩
  · omega
  · injection e with e1 e2 e3
    have : n * sz ≤ cap' * sz := Nat.mul_le_mul_right _ hnc
    refine ⟨g, cur, e1, hb, hh, by omega, fun j hj => ?_⟩
    rw [← ht, List.getElem?_take, if_pos hj]; simp
theorem Res.rd (h : Res B w t sz A n cap rows) : Rd w w.heap.size A sz rows := by
  rcases Nat.eq_zero_or_pos n with h0 | h0
  · have := h.len
    exact .inl (List.eq_nil_of_length_eq_zero (by omega))
  · obtain ⟨g, cs, e, _, hb, hsz, hc⟩ := h.at_ h0
    refine .inr ⟨⟨g, 0, none⟩, e, hb.lt, fun k r hr => ?_⟩
    have hl := h.all r (List.mem_of_getElem? hr)
    refine ⟨hl, fun j v hv => ?_⟩
    have hj : j < sz := by have := (List.getElem?_eq_some_iff.1 hv).1; omega
    have hk : k < n := by have := (List.getElem?_eq_some_iff.1 hr).1; have := h.len; omega
    have : (k + 1) * sz ≤ n * sz := Nat.mul_le_mul_right _ (by omega)
    rw [Nat.add_mul] at this
    rw [add_none, Nat.zero_add, hb.cell, hc _ (by omega), flat_get h.all hr hj, hv]
theorem Res.of_own (h : w.ownsRow B t sz (.slice A n cap) n rows.flatten) (hl : rows.length = n) (ha : ∀ r ∈ rows, r.length = sz) : Res B w t sz A n cap rows := ⟨h, hl, ha⟩
theorem Res.nil_ : Res B w t sz none 0 0 [] := ⟨by simpa using World.ownsRow_nil w B t sz, rfl, by simp⟩
theorem Res.more {B' : Nat} (h : Res B w t sz A n cap rows) (hB : B' ≤ B) : Res B' w t sz A n cap rows := by
  refine ⟨⟨h.own.1, ?_⟩, h.len, h.all⟩
  rcases h.own.2 with h0 | ⟨g, c, cur, e, hb, r⟩
  · exact .inl h0
  · exact .inr ⟨g, c, cur, e, by omega, r⟩
theorem Res.keep (h : Res B w t sz A n cap rows) (hk : ∀ g, A = some ⟨g, 0, none⟩ → w'.heap[g]? = w.heap[g]?) : Res B w' t sz A n cap rows := by
  refine ⟨⟨h.own.1, ?_⟩, h.len, h.all⟩
  rcases h.own.2 with h0 | ⟨g, c, cur, e, hb, hh, r⟩
  · exact .inl h0
  · exact .inr ⟨g, c, cur, e, hb, by injection e with e1; rw [hk g e1]; exact hh, r⟩
theorem Res.lt (h : Res B w t sz A n cap rows) {g : Nat} (hg : A = some ⟨g, 0, none⟩) : B ≤ g ∧ g < w.heap.size := by
  subst hg
  exact h.own.lt g rfl
theorem Res.past (h : Res B w t sz A n cap rows) (hb : Below w.heap.size w w') : Res B w' t sz A n cap rows := h.keep fun g hg => hb.block g (h.lt hg).2
theorem Res.drew (h : Res B w t sz A n cap rows) : Res B w.drew t sz A n cap rows := ⟨h.own, h.len, h.all⟩
theorem Res.turned {g : Nat} (h : Res B w t sz A n cap rows) (hg : w.grownBy w' (some g)) (hne : A ≠ some ⟨g, 0, none⟩) : Res B w' t sz A n cap rows :=
  h.keep fun k hk => hg.block k (h.lt hk).2 (fun e => by injection e with e; subst e; exact hne hk)
/-- the block filled row by row is such a slice -/
theorem Filled.res {g : Nat} {cs : Array Value} (hb : Blk w g t cs) (h : Filled cs sz rows n) (hl : rows.length = n) (hs : cs.size = n * sz) (hB : B ≤ g) (hm : n ≤ maxLen) (hall : ∀ r ∈ rows, r.length = sz) :
    Res B w t sz (some ⟨g, 0, none⟩) n n rows := by
  refine ⟨⟨by rw [flat_length hall, hl], .inr ⟨g, n, cs, rfl, hB, hb, Nat.le_refl _, hm, hs, ?_⟩⟩, hl, hall⟩
  apply List.ext_getElem?
  intro i
  rw [List.getElem?_take]
  by_cases hi : i < n * sz
  · rw [if_pos hi]
    rcases Nat.eq_zero_or_pos sz with hz | hz
    · subst hz; omega
    · have hk : i / sz < rows.length := by rw [hl]; exact (Nat.div_lt_iff_lt_mul hz).2 hi
      obtain ⟨r, hr⟩ := get_of_lt hk
      have hj : i % sz < sz := Nat.mod_lt _ hz
      have e : i = i / sz * sz + i % sz := by have := Nat.div_add_mod i sz; rw [Nat.mul_comm] at this; omega
      have hrl := hall r (List.mem_of_getElem? hr)
      obtain ⟨v, hv⟩ := get_of_lt (xs := r) (k := i % sz) (by omega)
      have e1 := h (i / sz) r (by omega) hr (i % sz) v hv
      have e2 := flat_get hall hr hj
      rw [← e] at e1 e2
      rw [e2, hv]
      simpa using e1
  · rw [if_neg hi, List.getElem?_eq_none (by rw [flat_length hall, hl]; omega)]
end
theorem intRows_all (xs : List Int) : ∀ r ∈ intRows xs, r.length = 1 := by
  intro r hr; obtain ⟨x, _, rfl⟩ := List.mem_map.1 hr; rfl
theorem intRows_flat (xs : List Int) : (intRows xs).flatten = xs.map (Value.int .i64) := by
  unfold intRows; induction xs with
  | nil => rfl
  | cons x r ih => simp [ih]

/-- what a marking call leaves: nothing has turned, or the marked slice's block alone -/
def Turned (w w' : World) (A : Option Addr) (n : Nat) : Prop := w = w' ∨ (0 < n ∧ ∃ g, A = some ⟨g, 0, none⟩ ∧ w.grownBy w' (some g))
theorem Turned.below {w w' : World} {A : Option Addr} {n B : Nat} (h : Turned w w' A n) (hB : B ≤ w.heap.size) (hA : ∀ g, A = some ⟨g, 0, none⟩ → B ≤ g) : Below B w w' := by
  rcases h with h | ⟨_, g, e, hg⟩
  · subst h; exact Below.refl _ _
  · exact (Below.refl B w).grown hg hB (fun k hk => by injection hk with hk; subst hk; exact hA g e)
theorem Turned.res {w w' : World} {A A' : Option Addr} {n n' cap B t sz : Nat} {rows : List (List Value)} (h : Turned w w' A n) (hr : Res B w t sz A' n' cap rows) (hne : ∀ g, A = some ⟨g, 0, none⟩ → A' ≠ some ⟨g, 0, none⟩) : Res B w' t sz A' n' cap rows := by
  rcases h with h | ⟨_, g, e, hg⟩
  · subst h; exact hr
  · exact hr.turned hg (hne g e)
theorem Turned.size {w w' : World} {A : Option Addr} {n : Nat} (h : Turned w w' A n) : w.heap.size ≤ w'.heap.size := by
  rcases h with h | ⟨_, g, _, hg⟩
  · subst h; exact Nat.le_refl _
  · exact hg.size
/-- a slice that bears the marks k0, k0 + 1, .. -/
def Marked (w : World) (A : Option Addr) (n sz k0 : Nat) : Prop := n = 0 ∨ ∃ g, A = some ⟨g, 0, none⟩ ∧ g < w.heap.size ∧ ∀ j : Nat, j < n * sz → w.cell? ⟨g, j, none⟩ = some (.int .i64 ((k0 : Int) + j))
theorem Marked.past {w w' : World} {A : Option Addr} {n sz k0 : Nat} (h : Marked w A n sz k0) (hb : Below w.heap.size w w') : Marked w' A n sz k0 := by
  rcases h with h | ⟨g, e, hl, hc⟩
  · exact .inl h
  · exact .inr ⟨g, e, Nat.lt_of_lt_of_le hl hb.size, fun j hj => (hb.cell (p := ⟨g, j, none⟩) hl).trans (hc j hj)⟩
theorem Blk.has {w : World} {g : Nat} {t : TypeId} {cs : Array Value} (h : Blk w g t cs) {i : Nat} (hi : i < cs.size) : ∃ v, w.cell? ⟨g, i, none⟩ = some v := ⟨cs[i], by rw [h.cell, Array.getElem?_eq_getElem hi]⟩
theorem grown_set {w wr : World} {g : Nat} (h : w.grownBy wr (some g)) (i : Nat) (v : Value) : w.grownBy (wr.setCell ⟨g, i, none⟩ v) (some g) :=
  ⟨h.os, h.tape, h.output, by simpa [World.setCell] using h.size, fun k hk hne => (Below.heap_setCell wr ⟨g, i, none⟩ v k (fun e => hne (by rw [e]))).trans (h.block k hk hne)⟩
theorem marks_step {cs : Array Value} {q k0 : Nat} {v : Value} (h : ∀ j : Nat, j < q → cs[j]? = some (.int .i64 ((k0 : Int) + j))) (hq : q < cs.size) (hv : v = .int .i64 ((k0 : Int) + q)) :
    ∀ j : Nat, j < q + 1 → (cs.setIfInBounds q v)[j]? = some (.int .i64 ((k0 : Int) + j)) := by
  intro j hj
  subst hv
  rw [Array.getElem?_setIfInBounds]
  by_cases e : q = j
  · subst e; simp [hq]
  · rw [if_neg e]; exact h j (by omega)
theorem of_drew {B : Nat} {w w' : World} (h : Below B w.drew w') : Below B w w' := ⟨h.os, h.tape, h.output, h.size, h.block⟩
theorem below_step {a b c : World} (h1 : Below a.heap.size a b) (h2 : Below b.heap.size b c) : Below a.heap.size a c := h1.trans (h2.mono h1.size)

/-! ### append onto a slice of the call's own, whatever the source -/
section
variable {P : Program} (w : World)
theorem run_append_of_nil (base : Nat) (t ty e : TypeId) (i : TypeInfo) (size : Nat) (ht : P.underlying t = some (.slice e)) (hi : P.info? e = some i)
    (v : Value) (n : Nat) (xs : List Value) (hown : w.ownsRow base e size v n xs) (c : Nat) : (Builtin.append_ #[t, t] ty #[v, .slice none 0 c]).run P w = .ok v w := by
  rcases hown.2 with ⟨rfl, rfl⟩ | ⟨g, cap, cur, rfl, _, _, hnc, _⟩
  · simp [Builtin.append_, run_underlying ht, sizeOf, typeInfo, hi, Builtin.lenOf, Builtin.firstCells]
  · simp [Builtin.append_, run_underlying ht, sizeOf, typeInfo, hi, Builtin.lenOf, Builtin.firstCells, hnc, storeCells]
theorem own_form {base : Nat} {e : TypeId} {size : Nat} {v : Value} {n : Nat} {xs : List Value} (h : w.ownsRow base e size v n xs) : ∃ A c, v = .slice A n c := by
  rcases h.2 with ⟨rfl, rfl⟩ | ⟨g, cap, cur, rfl, _⟩
  · exact ⟨_, _, rfl⟩
  · exact ⟨_, _, rfl⟩
theorem run_append_res (B : Nat) (t ty e : TypeId) (i : TypeInfo) (z : Value) (sz bytes : Nat) (ht : P.underlying t = some (.slice e)) (hi : P.info? e = some i) (hz : i.zero = some z)
    (hsize : i.size = sz) (hby : i.bytes = bytes) (hzs : z.cells.size = sz) (hsz : 0 < sz) (A : Option Addr) (n cap : Nat) (rows : List (List Value)) (hR : Res B w e sz A n cap rows)
    (Bx : Nat) (X : Option Addr) (m c : Nat) (news : List (List Value)) (hx0 : X = none → m = 0) (hX : Rd w Bx X sz news) (hm : news.length = m) (hnl : ∀ r ∈ news, r.length = sz) (h1 : ∀ r ∈ news, ∀ u ∈ r, u.oneCell' = true)
    (h63 : n + m ≤ 281474976710656) (hbytes : (n + m) * bytes ≤ 140737488355328) (hB : B ≤ w.heap.size) :
    ∃ A' c' w', (Builtin.append_ #[t, t] ty #[.slice A n cap, .slice X m c]).run P w = .ok (.slice A' (n + m) c') w' ∧ Res B w' e sz A' (n + m) c' (rows ++ news) ∧ Below B w w' := by
  rcases X with _ | ad
  · have hm0 := hx0 rfl
    subst hm0
    have hn : news = [] := List.eq_nil_of_length_eq_zero hm
    subst hn
    exact ⟨A, cap, w, run_append_of_nil w B t ty e i sz ht hi _ n _ hR.own c, by simpa using hR, Below.refl _ _⟩
  · have hfl : (news.flatten).length = m * sz := by rw [flat_length hnl, hm]
    have hcells : ∀ (j : Nat) (u : Value), news.flatten[j]? = some u → w.cell? (ad.add j) = some u := by
      intro j u hu
      have hj : j < m * sz := by have := (List.getElem?_eq_some_iff.1 hu).1; omega
      have hk : j / sz < news.length := by rw [hm]; exact (Nat.div_lt_iff_lt_mul hsz).2 hj
      obtain ⟨r, hr⟩ := get_of_lt hk
      have hjm : j % sz < sz := Nat.mod_lt _ hsz
      have e1 : j = j / sz * sz + j % sz := by have := Nat.div_add_mod j sz; rw [Nat.mul_comm] at this; omega
      have e2 := flat_get hnl hr hjm
      rw [← e1, hu] at e2
      obtain ⟨ad', he, _, _, hc⟩ := hX.at_ hr
      injection he with he; subst he
      have := hc (j % sz) u e2.symm
      rwa [← e1] at this
    obtain ⟨v', w', hrun, h2, h3, _, _⟩ := run_append_own_at (P := P) w B t ty e i z sz bytes ht hi hz hsize hby hzs hsz (.slice A n cap) n rows.flatten hR.own ad m c news.flatten hfl hcells
      (fun u hu => by obtain ⟨r, hr, hu⟩ := List.mem_flatten.1 hu; exact h1 r hr u hu) (by unfold maxLen; omega) hbytes hB
    obtain ⟨A', c', rfl⟩ := own_form w' h2
    refine ⟨A', c', w', hrun, ⟨by simpa using h2, by simp [hR.len, hm], fun r hr => ?_⟩, (Below.refl _ _).grown h3 hB fun k hk => ?_⟩
    · rcases List.mem_append.1 hr with h | h
      · exact hR.all r h
      · exact hnl r h
    · exact (hR.own.lt k hk).1
theorem wpList_append_res {ops : Array Oper} {rest : List Oper} {o : Oper} {a : Act} {Q : Exit → Act → World → Prop} (hgd : o.guard = none) (s x : Operand) (t : TypeId)
    (ho : o.op = .call { callee := .builtin .append, args := #[s, x], argTypes := #[t, t] })
    (B : Nat) (e : TypeId) (i : TypeInfo) (z : Value) (sz bytes : Nat) (ht : P.underlying t = some (.slice e)) (hi : P.info? e = some i) (hz : i.zero = some z)
    (hsize : i.size = sz) (hby : i.bytes = bytes) (hzs : z.cells.size = sz) (hsz : 0 < sz) (A : Option Addr) (n cap : Nat) (rows : List (List Value)) (hs : a.eval s = .slice A n cap) (hR : Res B w e sz A n cap rows)
    (Bx : Nat) (X : Option Addr) (m c : Nat) (news : List (List Value)) (hx : a.eval x = .slice X m c) (hx0 : X = none → m = 0) (hX : Rd w Bx X sz news) (hm : news.length = m) (hnl : ∀ r ∈ news, r.length = sz) (h1 : ∀ r ∈ news, ∀ u ∈ r, u.oneCell' = true)
    (h63 : n + m ≤ 281474976710656) (hbytes : (n + m) * bytes ≤ 140737488355328) (hB : B ≤ w.heap.size)
    (h : ∀ A' c' w', Res B w' e sz A' (n + m) c' (rows ++ news) → Below B w w' → wpList P ops Q rest (a.put o.dst (.slice A' (n + m) c')) w') : wpList P ops Q (o :: rest) a w :=
  wpList_plain hgd fun K hK => by
    obtain ⟨A', c', w', hrun, h2, h3⟩ := run_append_res (P := P) w B t o.type e i z sz bytes ht hi hz hsize hby hzs hsz A n cap rows hR Bx X m c news hx0 hX hm hnl h1 h63 hbytes hB
    unfold Oper.wp execOp
    simp only [ho, resolve, invoke, builtin, Sem.run_bind, Sem.run_pure, Result.andThen_ok, List.map_toArray, List.map_cons, List.map_nil, hs, hx, hrun]
    exact hK _ _ (h A' c' w' h2 h3)
theorem Rd.new1 (t : TypeId) (r : List Value) : Rd (w.alloc (.cells r.toArray t)) (w.heap.size + 1) (some ⟨w.heap.size, 0, none⟩) r.length [r] := by
  refine .inr ⟨_, rfl, by simp, fun k r' hr => ?_⟩
  have hk : k = 0 := by have := (List.getElem?_eq_some_iff.1 hr).1; simp at this; exact this
  subst hk
  simp only [List.getElem?_cons_zero, Option.some.injEq] at hr
  subst hr
  refine ⟨rfl, fun j v hv => ?_⟩
  rw [add_none, (Blk.new w t _).cell]
  simpa using hv
theorem Res.zero (B : Nat) (t : TypeId) (sz : Nat) (hB : B ≤ w.heap.size) : Res B (w.alloc (.cells #[] t)) t sz (some ⟨w.heap.size, 0, none⟩) 0 0 [] :=
  ⟨⟨by simp, .inr ⟨w.heap.size, 0, #[], rfl, hB, Blk.new w t #[], Nat.le_refl _, by omega, by simp, by simp⟩⟩, rfl, by simp⟩
end

/-- one row, just built, appended -/
theorem wpList_append_row {P : Program} (w : World) {ops : Array Oper} {rest : List Oper} {o : Oper} {a : Act} {Q : Exit → Act → World → Prop} (hgd : o.guard = none) (s x : Operand) (t : TypeId)
    (ho : o.op = .call { callee := .builtin .append, args := #[s, x], argTypes := #[t, t] })
    (B : Nat) (e : TypeId) (i : TypeInfo) (z : Value) (sz bytes : Nat) (ht : P.underlying t = some (.slice e)) (hi : P.info? e = some i) (hz : i.zero = some z)
    (hsize : i.size = sz) (hby : i.bytes = bytes) (hzs : z.cells.size = sz) (hsz : 0 < sz) (hbb : bytes ≤ 4096) (A : Option Addr) (n cap : Nat) (rows : List (List Value)) (hs : a.eval s = .slice A n cap) (hR : Res B w e sz A n cap rows)
    (r : List Value) (c : Nat) (hx : a.eval x = .slice (some ⟨w.heap.size, 0, none⟩) 1 c) (hl : r.length = sz) (h1 : ∀ u ∈ r, u.oneCell' = true) (hn : n ≤ 4194304) (hB : B ≤ w.heap.size)
    (h : ∀ A' c' w', Res B w' e sz A' (n + 1) c' (rows ++ [r]) → Below B w w' → wpList P ops Q rest (a.put o.dst (.slice A' (n + 1) c')) w') : wpList P ops Q (o :: rest) a (w.alloc (.cells r.toArray e)) := by
  have hb : Below w.heap.size w (w.alloc (.cells r.toArray e)) := (Below.refl _ _).alloc (Nat.le_refl _) _
  have hrd := Rd.new1 w e r
  rw [hl] at hrd
  have hm : (n + 1) * bytes ≤ 4194305 * 4096 := Nat.mul_le_mul (by omega) hbb
  exact wpList_append_res _ hgd s x t ho B e i z sz bytes ht hi hz hsize hby hzs hsz A n cap rows hs (hR.past hb) (w.heap.size + 1) _ 1 c [r] hx (fun h => by cases h) hrd rfl (by simp [hl]) (by simpa using h1) (by omega) (by omega)
    (by simp; omega) fun A' c' w' h2 h3 => h A' c' w' h2 ((hb.mono hB).trans h3)
theorem intRows_snoc (xs : List Int) (v : Int) : intRows (xs ++ [v]) = intRows xs ++ [[Value.int .i64 v]] := by simp [intRows]

/-! ### a region that draws its order, whose operations read what was there and whose calls leave it there: one walk in the order of the text -/
/-- the worlds behind w: what was there is there -/
def Past (w : World) : Type := { w' : World // Below w.heap.size w w' }
instance (w : World) : Nonempty (Past w) := ⟨⟨w, Below.refl _ _⟩⟩
theorem wp_region_past {P : Program} {id : Nat} {Q : Exit → Act → World → Prop} {a : Act} {w : World} {l : List Oper} (hm : P.follows .mixedOrders = true) (hB : Region.lexB .any l.toArray = true)
    (h : wpQuiet P l.toArray (fun w' => ∃ x : Past w, w' = x.1) (fun a' => ∀ w', (∃ x : Past w, w' = x.1) → Q .normal a' w') l a) : (Code.region id l.toArray true).wp P Q a w :=
  wp_region_quiet (C := fun w' => ∃ x : Past w, w' = x.1) hm hB ⟨⟨w.drew, (Below.refl _ _).drew⟩, rfl⟩ (by simpa using h)
theorem past_call {P : Program} {f : FuncId} {args : Array Value} {w : World} {x : Past w} {v : Value}
    (h : Calls P f args x.1 fun e w' => e = .returned v ∧ Below x.1.heap.size x.1 w') : Calls P f args x.1 fun e w' => e = .returned v ∧ ∃ y : Past w, w' = y.1 :=
  h.mono fun _ w' ⟨he, hb⟩ => ⟨he, ⟨w', below_step x.2 hb⟩, rfl⟩
theorem past_same {P : Program} {f : FuncId} {args : Array Value} {w : World} {x : Past w} {v : Value}
    (h : Calls P f args x.1 fun e w' => e = .returned v ∧ x.1 = w') : Calls P f args x.1 fun e w' => e = .returned v ∧ ∃ y : Past w, w' = y.1 :=
  h.mono fun _ _ ⟨he, hb⟩ => ⟨he, x, hb.symm⟩
theorem Past.cell {w : World} {p : Addr} {v : Value} (h : w.cell? p = some v) (x : Past w) : x.1.cell? p = some v := (x.2.cell (block_lt_of_cell h)).trans h
theorem Rd.at_past {w : World} {B : Nat} {A : Option Addr} {sz : Nat} {rows : List (List Value)} (h : Rd w B A sz rows) (x : Past w) (hB : B ≤ w.heap.size) : Rd x.1 B A sz rows := h.below (x.2.mono hB)

theorem ret_int {k : IntKind} {a b : Int} (h : a = b) : Ending.returned (.int k a) = .returned (.int k b) := by rw [h]
theorem ret_bool {a b : Bool} (h : a = b) : Ending.returned (.bool a) = .returned (.bool b) := by rw [h]
end Go.Proofs.YtkdfdbcpbgganaaGreatDoor
end

/- More words for memory: structs loaded inside regions that draw their order; boxes behind later worlds; the first element with a property. No condition. -/
section
namespace Go.Proofs.YtkdfdbcpbgganaaGreatDoor
open Go.RowKit Go.BigFrame
theorem quiet_load_agg {P : Program} {C : World → Prop} {K : Act → Prop} {a : Act} {o : Oper} (ty : TypeId) (x : Operand) (ho : o.op = .load ty x)
    (p : Addr) (hx : a.eval x = .pointer (some p)) (cs : List Value) (hc : ∀ w, C w → ∀ (j : Nat) (v : Value), cs[j]? = some v → w.cell? (p.add j) = some v) (d : TypeDesc)
    (hu : P.underlying ty = some d) (hd : (match d with | .struct _ | .array _ _ => true | _ => false) = true) (hi : (P.info? ty).map (·.size) = some cs.length)
    (h : K (a.put o.dst (.agg cs.toArray))) : o.quiet P a C K :=
  ⟨_, fun w hw => by
    unfold Oper.quietAt execOp
    simp only [ho, hx, Instr.loadAt, Instr.sureAddr, Sem.run_bind, Sem.run_pure, Result.andThen_ok, run_loadVar_agg w ty p cs d (hc w hw) hu hd hi]
    exact ⟨rfl, rfl⟩, h⟩
theorem box_cells {w wr : World} {row : List Value} {t : TypeId} (h : Below (w.heap.size + 1) (w.alloc (.cells row.toArray t)) wr) :
    ∀ (j : Nat) (v : Value), row[j]? = some v → wr.cell? ((⟨w.heap.size, 0, none⟩ : Addr).add j) = some v := by
  intro j v hv
  rw [add_none, h.cell (p := ⟨w.heap.size, 0 + j, none⟩) (by simp), (Blk.new w t _).cell]
  simpa using hv
theorem cells_alloc {wr : World} {row : List Value} {p : Addr} (h : ∀ (j : Nat) (v : Value), row[j]? = some v → wr.cell? (p.add j) = some v) (hp : p.block < wr.heap.size) (o : Obj) :
    ∀ (j : Nat) (v : Value), row[j]? = some v → (wr.alloc o).cell? (p.add j) = some v :=
  fun j v hv => (World.cell?_alloc_lt wr o _ (by rw [block_of_add]; exact hp)).trans (h j v hv)
theorem Past.cells {wr : World} {row : List Value} {p : Addr} (h : ∀ (j : Nat) (v : Value), row[j]? = some v → wr.cell? (p.add j) = some v) (y : Past wr) :
    ∀ (j : Nat) (v : Value), row[j]? = some v → y.1.cell? (p.add j) = some v := fun j v hv => Past.cell (h j v hv) y
theorem Past.cells' {wr : World} {row : List Value} {p : Addr} (h : ∀ (j : Nat) (v : Value), row[j]? = some v → wr.cell? (p.add j) = some v) :
    ∀ w', (∃ y : Past wr, w' = y.1) → ∀ (j : Nat) (v : Value), row[j]? = some v → w'.cell? (p.add j) = some v := by
  rintro _ ⟨y, rfl⟩; exact Past.cells h y
theorem find_stop {α : Type} {p : α → Bool} {xs : List α} {k : Nat} {x : α} (h : (xs.take k).any p = false) (hx : xs[k]? = some x) (hp : p x = true) : xs.findIdx? p = some k := by
  have hk := (List.getElem?_eq_some_iff.1 hx).1
  rw [List.findIdx?_eq_some_iff_getElem]
  refine ⟨hk, by rw [(List.getElem?_eq_some_iff.1 hx).2]; exact hp, fun j hj => ?_⟩
  have : xs[j] ∈ xs.take k := by rw [List.mem_iff_getElem]; exact ⟨j, by simp; omega, by simp⟩
  simpa using List.any_eq_false.1 h _ this
theorem find_end {α : Type} {p : α → Bool} {xs : List α} {n : Nat} (hl : xs.length = n) (h : (xs.take n).any p = false) : xs.findIdx? p = none := by
  rw [List.findIdx?_eq_none_iff]
  intro x hx
  rw [List.take_of_length_le (by omega)] at h
  simpa using List.any_eq_false.1 h x hx
theorem find_get {α : Type} {p : α → Bool} {xs : List α} {k : Nat} (h : xs.findIdx? p = some k) : ∃ x, xs[k]? = some x ∧ p x = true := by
  obtain ⟨hk, h1, _⟩ := List.findIdx?_eq_some_iff_getElem.1 h
  exact ⟨xs[k], List.getElem?_eq_getElem hk, h1⟩
/-- append as a step of a region that draws its order -/
theorem step_append_res {P : Program} {ops : Array Oper} {o : Oper} {a : Act} {w : World} {K : Act → World → Prop} {Q : Exit → Act → World → Prop} {E : Prop} (hg : o.guard = none) (s x : Operand) (t : TypeId)
    (ho : o.op = .call { callee := .builtin .append, args := #[s, x], argTypes := #[t, t] })
    (B : Nat) (e : TypeId) (i : TypeInfo) (z : Value) (sz bytes : Nat) (ht : P.underlying t = some (.slice e)) (hi : P.info? e = some i) (hz : i.zero = some z)
    (hsize : i.size = sz) (hby : i.bytes = bytes) (hzs : z.cells.size = sz) (hsz : 0 < sz) (A : Option Addr) (n cap : Nat) (rows : List (List Value)) (hs : a.eval s = .slice A n cap) (hR : Res B w e sz A n cap rows)
    (Bx : Nat) (X : Option Addr) (m c : Nat) (news : List (List Value)) (hx : a.eval x = .slice X m c) (hx0 : X = none → m = 0) (hX : Rd w Bx X sz news) (hm : news.length = m) (hnl : ∀ r ∈ news, r.length = sz) (h1 : ∀ r ∈ news, ∀ u ∈ r, u.oneCell' = true)
    (h63 : n + m ≤ 281474976710656) (hbytes : (n + m) * bytes ≤ 140737488355328) (hB : B ≤ w.heap.size)
    (h : ∀ A' c' w', Res B w' e sz A' (n + m) c' (rows ++ news) → Below B w w' → K (a.put o.dst (.slice A' (n + m) c')) w') :
    if Region.wanted o (yielded ops a.tmps) = true then Oper.wp P o a w K Q else E := by
  have hw : Region.wanted o (yielded ops a.tmps) = true := by simp [Region.wanted, hg]
  rw [if_pos hw]
  obtain ⟨A', c', w', hrun, h2, h3⟩ := run_append_res (P := P) w B t o.type e i z sz bytes ht hi hz hsize hby hzs hsz A n cap rows hR Bx X m c news hx0 hX hm hnl h1 h63 hbytes hB
  unfold Oper.wp execOp
  simp only [ho, resolve, invoke, builtin, Sem.run_bind, Sem.run_pure, Result.andThen_ok, List.map_toArray, List.map_cons, List.map_nil, hs, hx, hrun]
  exact h A' c' w' h2 h3
theorem Res.alloc {w : World} {B : Nat} {t : TypeId} {sz n cap : Nat} {A : Option Addr} {rows : List (List Value)} (h : Res B w t sz A n cap rows) (o : Obj) : Res B (w.alloc o) t sz A n cap rows :=
  h.past ((Below.refl _ _).alloc (Nat.le_refl _) _)
theorem Res.zero_at {w : World} {B : Nat} {t : TypeId} {sz g : Nat} (hB : B ≤ w.heap.size) (hg : w.heap.size = g) : Res B (w.alloc (.cells #[] t)) t sz (some ⟨g, 0, none⟩) 0 0 [] := by
  subst hg; exact Res.zero w B t sz hB
/-- append onto a slice that has just been made empty: nothing that is there turns -/
theorem run_append_zero {P : Program} (w : World) (g : Nat) (B : Nat) (t ty e : TypeId) (i : TypeInfo) (z : Value) (sz bytes : Nat) (ht : P.underlying t = some (.slice e)) (hi : P.info? e = some i) (hz : i.zero = some z)
    (hsize : i.size = sz) (hby : i.bytes = bytes) (hzs : z.cells.size = sz) (hsz : 0 < sz) (hR : Res B w e sz (some ⟨g, 0, none⟩) 0 0 [])
    (Bx : Nat) (X : Option Addr) (m c : Nat) (news : List (List Value)) (hx0 : X = none → m = 0) (hX : Rd w Bx X sz news) (hm : news.length = m) (hnl : ∀ r ∈ news, r.length = sz) (h1 : ∀ r ∈ news, ∀ u ∈ r, u.oneCell' = true)
    (h63 : m ≤ 281474976710656) (hbytes : m * bytes ≤ 140737488355328) (hB : B ≤ w.heap.size) :
    ∃ A' c' w', (Builtin.append_ #[t, t] ty #[.slice (some ⟨g, 0, none⟩) 0 0, .slice X m c]).run P w = .ok (.slice A' m c') w' ∧ Res B w' e sz A' m c' news ∧ Below B w w' ∧ w.grownBy w' (some g) := by
  rcases X with _ | ad
  · have hm0 := hx0 rfl
    subst hm0
    have hn : news = [] := List.eq_nil_of_length_eq_zero hm
    subst hn
    exact ⟨_, 0, w, run_append_of_nil w B t ty e i sz ht hi _ 0 _ hR.own c, hR, Below.refl _ _, World.grownBy.refl w _⟩
  · have hfl : (news.flatten).length = m * sz := by rw [flat_length hnl, hm]
    have hcells : ∀ (j : Nat) (u : Value), news.flatten[j]? = some u → w.cell? (ad.add j) = some u := by
      intro j u hu
      have hj : j < m * sz := by have := (List.getElem?_eq_some_iff.1 hu).1; omega
      have hk : j / sz < news.length := by rw [hm]; exact (Nat.div_lt_iff_lt_mul hsz).2 hj
      obtain ⟨r, hr⟩ := get_of_lt hk
      have hjm : j % sz < sz := Nat.mod_lt _ hsz
      have e1 : j = j / sz * sz + j % sz := by have := Nat.div_add_mod j sz; rw [Nat.mul_comm] at this; omega
      have e2 := flat_get hnl hr hjm
      rw [← e1, hu] at e2
      obtain ⟨ad', he, _, _, hc⟩ := hX.at_ hr
      injection he with he; subst he
      have := hc (j % sz) u e2.symm
      rwa [← e1] at this
    obtain ⟨v', w', hrun, h2, h3, _, _⟩ := run_append_own_at (P := P) w B t ty e i z sz bytes ht hi hz hsize hby hzs hsz (.slice (some ⟨g, 0, none⟩) 0 0) 0 [] (by simpa using hR.own) ad m c news.flatten hfl hcells
      (fun u hu => by obtain ⟨r, hr, hu⟩ := List.mem_flatten.1 hu; exact h1 r hr u hu) (by unfold maxLen; omega) (by rw [Nat.zero_add]; exact hbytes) hB
    obtain ⟨A', c', rfl⟩ := own_form w' h2
    have h3' : w.grownBy w' (some g) := by simpa [Value.ownBlock] using h3
    refine ⟨A', c', w', by simpa using hrun, ⟨by simpa using h2, hm, hnl⟩, (Below.refl _ _).grown h3' hB fun k hk => ?_, h3'⟩
    injection hk with hk
    subst hk
    exact (hR.lt rfl).1
theorem step_append_zero {P : Program} {ops : Array Oper} {o : Oper} {a : Act} {w : World} {K : Act → World → Prop} {Q : Exit → Act → World → Prop} {E : Prop} (hg : o.guard = none) (s x : Operand) (t : TypeId)
    (ho : o.op = .call { callee := .builtin .append, args := #[s, x], argTypes := #[t, t] })
    (g : Nat) (B : Nat) (e : TypeId) (i : TypeInfo) (z : Value) (sz bytes : Nat) (ht : P.underlying t = some (.slice e)) (hi : P.info? e = some i) (hz : i.zero = some z)
    (hsize : i.size = sz) (hby : i.bytes = bytes) (hzs : z.cells.size = sz) (hsz : 0 < sz) (hs : a.eval s = .slice (some ⟨g, 0, none⟩) 0 0) (hR : Res B w e sz (some ⟨g, 0, none⟩) 0 0 [])
    (Bx : Nat) (X : Option Addr) (m c : Nat) (news : List (List Value)) (hx : a.eval x = .slice X m c) (hx0 : X = none → m = 0) (hX : Rd w Bx X sz news) (hm : news.length = m) (hnl : ∀ r ∈ news, r.length = sz) (h1 : ∀ r ∈ news, ∀ u ∈ r, u.oneCell' = true)
    (h63 : m ≤ 281474976710656) (hbytes : m * bytes ≤ 140737488355328) (hB : B ≤ w.heap.size)
    (h : ∀ A' c' w', Res B w' e sz A' m c' news → Below B w w' → w.grownBy w' (some g) → K (a.put o.dst (.slice A' m c')) w') :
    if Region.wanted o (yielded ops a.tmps) = true then Oper.wp P o a w K Q else E := by
  have hw : Region.wanted o (yielded ops a.tmps) = true := by simp [Region.wanted, hg]
  rw [if_pos hw]
  obtain ⟨A', c', w', hrun, h2, h3, h4⟩ := run_append_zero (P := P) w g B t o.type e i z sz bytes ht hi hz hsize hby hzs hsz hR Bx X m c news hx0 hX hm hnl h1 h63 hbytes hB
  unfold Oper.wp execOp
  simp only [ho, resolve, invoke, builtin, Sem.run_bind, Sem.run_pure, Result.andThen_ok, List.map_toArray, List.map_cons, List.map_nil, hs, hx, hrun]
  exact h A' c' w' h2 h3 h4
/-- a row made ahead of the append lies where it lay -/
theorem Rd.row_kept {w w' : World} {g b : Nat} {r : List Value} (hc : ∀ (j : Nat) (v : Value), r[j]? = some v → w.cell? ⟨b, j, none⟩ = some v) (hl : b < w.heap.size) (hg : w.grownBy w' (some g)) (hne : b ≠ g) :
    Rd w' w'.heap.size (some ⟨b, 0, none⟩) r.length [r] := by
  have hR : Rd w w.heap.size (some ⟨b, 0, none⟩) r.length [r] := by
    refine .inr ⟨_, rfl, hl, fun q r' hr => ?_⟩
    have hq : q = 0 := by have := (List.getElem?_eq_some_iff.1 hr).1; simp at this; exact this
    subst hq
    simp only [List.getElem?_cons_zero, Option.some.injEq] at hr
    subst hr
    refine ⟨rfl, fun j v hv => ?_⟩
    rw [add_none]
    have := hc j v hv
    simpa using this
  exact (hR.grown (Nat.le_refl _) hg (fun ad he _ => by injection he with he; subst he; exact hne)).more hg.size
end Go.Proofs.YtkdfdbcpbgganaaGreatDoor
end

/- Appending one row: which block turns, and where the longer slice lies. No condition. -/
section
namespace Go.Proofs.YtkdfdbcpbgganaaGreatDoor
open Go.RowKit Go.BigFrame
/-- the block of a slice -/
def blkOf (A : Option Addr) : Option Nat := A.map (·.block)
theorem blkOf_own (A : Option Addr) (n c : Nat) : (Value.slice A n c).ownBlock = blkOf A := by cases A <;> rfl
/-- all blocks but the slice's own lie as they lay -/
def KeptBut (w w' : World) (A : Option Addr) : Prop := ∀ k, k < w.heap.size → some k ≠ blkOf A → w'.heap[k]? = w.heap[k]?
theorem Blk.kept {w w' : World} {g : Nat} {t : TypeId} {cs : Array Value} {A : Option Addr} (h : Blk w g t cs) (hk : KeptBut w w' A) (hne : some g ≠ blkOf A) : Blk w' g t cs := (hk g h.lt hne).trans h
theorem Rd.kept {w w' : World} {B sz : Nat} {A X : Option Addr} {rows : List (List Value)} (h : Rd w B X sz rows) (hk : KeptBut w w' A) (hB : B ≤ w.heap.size) (hne : ∀ k, blkOf A = some k → B ≤ k) : Rd w' B X sz rows :=
  h.keep fun p hp => World.cell?_of_block (hk p.block (by omega) (fun e => by have := hne p.block e.symm; omega))
theorem Rd.keptX {w w' : World} {B sz : Nat} {A X : Option Addr} {rows : List (List Value)} (h : Rd w B X sz rows) (hk : KeptBut w w' A) (hB : B ≤ w.heap.size) (hne : ∀ ad, X = some ad → some ad.block ≠ blkOf A) : Rd w' B X sz rows := by
  rcases h with h | ⟨ad, e, hb, hc⟩
  · exact .inl h
  · exact .inr ⟨ad, e, hb, fun k r hr => ⟨(hc k r hr).1, fun j v hv => (World.cell?_of_block (w := w) (hk (ad.add (k * sz + j)).block (by rw [block_of_add]; omega) (by rw [block_of_add]; exact hne ad e))).trans ((hc k r hr).2 j v hv)⟩⟩
theorem Res.keptBut {w w' : World} {B : Nat} {t : TypeId} {sz n cap : Nat} {A X : Option Addr} {rows : List (List Value)} (h : Res B w t sz X n cap rows) (hk : KeptBut w w' A) (hne : ∀ g, X = some ⟨g, 0, none⟩ → some g ≠ blkOf A) : Res B w' t sz X n cap rows :=
  h.keep fun g hg => hk g (h.lt hg).2 (hne g hg)
theorem wpList_append_row_at {P : Program} (w : World) {ops : Array Oper} {rest : List Oper} {o : Oper} {a : Act} {Q : Exit → Act → World → Prop} (hgd : o.guard = none) (s x : Operand) (t : TypeId)
    (ho : o.op = .call { callee := .builtin .append, args := #[s, x], argTypes := #[t, t] })
    (B : Nat) (e : TypeId) (i : TypeInfo) (z : Value) (sz bytes : Nat) (ht : P.underlying t = some (.slice e)) (hi : P.info? e = some i) (hz : i.zero = some z)
    (hsize : i.size = sz) (hby : i.bytes = bytes) (hzs : z.cells.size = sz) (hsz : 0 < sz) (hbb : bytes ≤ 4096) (A : Option Addr) (n cap : Nat) (rows : List (List Value)) (hs : a.eval s = .slice A n cap) (hR : Res B w e sz A n cap rows)
    (r : List Value) (c : Nat) (hx : a.eval x = .slice (some ⟨w.heap.size, 0, none⟩) 1 c) (hl : r.length = sz) (h1 : ∀ u ∈ r, u.oneCell' = true) (hn : n ≤ 4194304) (hB : B ≤ w.heap.size)
    (h : ∀ A' c' w', Res B w' e sz A' (n + 1) c' (rows ++ [r]) → Below B w w' → KeptBut w w' A → (blkOf A' = blkOf A ∨ blkOf A' = some (w.heap.size + 1)) → wpList P ops Q rest (a.put o.dst (.slice A' (n + 1) c')) w') : wpList P ops Q (o :: rest) a (w.alloc (.cells r.toArray e)) := by
  have hb : Below w.heap.size w (w.alloc (.cells r.toArray e)) := (Below.refl _ _).alloc (Nat.le_refl _) _
  have hR2 := hR.past hb
  have hm : (n + 1) * bytes ≤ 4194305 * 4096 := Nat.mul_le_mul (by omega) hbb
  refine wpList_plain hgd fun K hK => ?_
  obtain ⟨v', w', hrun, h2, h3, _, h5⟩ := run_append_own_at (P := P) (w.alloc (.cells r.toArray e)) B t o.type e i z sz bytes ht hi hz hsize hby hzs hsz (.slice A n cap) n rows.flatten hR2.own ⟨w.heap.size, 0, none⟩ 1 c r (by omega)
    (fun j u hu => by rw [add_none, (Blk.new w e _).cell]; simpa using hu) h1 (by unfold maxLen; omega) (by omega) (by simp; omega)
  obtain ⟨A', c', rfl⟩ := own_form w' h2
  have hkb : KeptBut w w' A := fun k hk hne => (h3.block k (by simp; omega) (by rw [blkOf_own]; exact hne)).trans (Below.heap_alloc w _ k hk)
  have hbe : Below B w w' := (hb.mono hB).trans ((Below.refl _ _).grown h3 (by simp; omega) fun k hk => (hR2.own.lt k hk).1)
  unfold Oper.wp execOp
  simp only [ho, resolve, invoke, builtin, Sem.run_bind, Sem.run_pure, Result.andThen_ok, List.map_toArray, List.map_cons, List.map_nil, hs, hx, hrun]
  refine hK _ _ (h A' c' w' ⟨by simpa using h2, by simp [hR.len], fun r' hr' => ?_⟩ hbe hkb ?_)
  · rcases List.mem_append.1 hr' with h' | h'
    · exact hR.all r' h'
    · simp only [List.mem_singleton] at h'; rw [h']; exact hl
  · rw [blkOf_own, blkOf_own] at h5; simpa using h5
end Go.Proofs.YtkdfdbcpbgganaaGreatDoor
end

/- Appending one row as a step of a region that draws its order: which block turns, and where the longer slice lies. No condition. -/
section
namespace Go.Proofs.YtkdfdbcpbgganaaGreatDoor
open Go.RowKit Go.BigFrame
/-- the row lies whole in a block of its own -/
theorem step_append_row_at {P : Program} {ops : Array Oper} {o : Oper} {a : Act} {w : World} {K : Act → World → Prop} {Q : Exit → Act → World → Prop} {E : Prop} (hg : o.guard = none) (s x : Operand) (t : TypeId)
    (ho : o.op = .call { callee := .builtin .append, args := #[s, x], argTypes := #[t, t] })
    (B : Nat) (e : TypeId) (i : TypeInfo) (z : Value) (sz bytes : Nat) (ht : P.underlying t = some (.slice e)) (hi : P.info? e = some i) (hz : i.zero = some z)
    (hsize : i.size = sz) (hby : i.bytes = bytes) (hzs : z.cells.size = sz) (hsz : 0 < sz) (hbb : bytes ≤ 4096) (A : Option Addr) (n cap : Nat) (rows : List (List Value)) (hs : a.eval s = .slice A n cap) (hR : Res B w e sz A n cap rows)
    (r : List Value) (g c tg : Nat) (hx : a.eval x = .slice (some ⟨g, 0, none⟩) 1 c) (hG : Blk w g tg r.toArray) (hl : r.length = sz) (h1 : ∀ u ∈ r, u.oneCell' = true) (hn : n ≤ 4194304) (hB : B ≤ w.heap.size)
    (h : ∀ A' c' w', Res B w' e sz A' (n + 1) c' (rows ++ [r]) → Below B w w' → KeptBut w w' A → (blkOf A' = blkOf A ∨ blkOf A' = some w.heap.size) → K (a.put o.dst (.slice A' (n + 1) c')) w') :
    if Region.wanted o (yielded ops a.tmps) = true then Oper.wp P o a w K Q else E := by
  have hw : Region.wanted o (yielded ops a.tmps) = true := by simp [Region.wanted, hg]
  rw [if_pos hw]
  have hm : (n + 1) * bytes ≤ 4194305 * 4096 := Nat.mul_le_mul (by omega) hbb
  obtain ⟨v', w', hrun, h2, h3, _, h5⟩ := run_append_own_at (P := P) w B t o.type e i z sz bytes ht hi hz hsize hby hzs hsz (.slice A n cap) n rows.flatten hR.own ⟨g, 0, none⟩ 1 c r (by omega)
    (fun j u hu => by rw [add_none, hG.cell]; simpa using hu) h1 (by unfold maxLen; omega) (by omega) hB
  obtain ⟨A', c', rfl⟩ := own_form w' h2
  have hkb : KeptBut w w' A := fun k hk hne => h3.block k hk (by rw [blkOf_own]; exact hne)
  have hbe : Below B w w' := (Below.refl _ _).grown h3 hB fun k hk => (hR.own.lt k hk).1
  unfold Oper.wp execOp
  simp only [ho, resolve, invoke, builtin, Sem.run_bind, Sem.run_pure, Result.andThen_ok, List.map_toArray, List.map_cons, List.map_nil, hs, hx, hrun]
  refine h A' c' w' ⟨by simpa using h2, by simp [hR.len], fun r' hr' => ?_⟩ hbe hkb ?_
  · rcases List.mem_append.1 hr' with h' | h'
    · exact hR.all r' h'
    · simp only [List.mem_singleton] at h'; rw [h']; exact hl
  · rw [blkOf_own, blkOf_own] at h5; exact h5
end Go.Proofs.YtkdfdbcpbgganaaGreatDoor
end
