/- More words for memory: structs loaded inside regions that draw their order; boxes behind later worlds; the first element with a property. No condition. -/
import Derived.Test.YtlbllonpodckgaaGreatDoorBase
namespace Go.Proofs.YtlbllonpodckgaaGreatDoor
open Go.RowKit Go.BigFrame
theorem quiet_load_agg {P : Program} {C : World → Prop} {K : Act → Prop} {a : Act} {o : Oper} (ty : TypeId) (x : Operand) (ho : o.op = .load ty x)
    (p : Addr) (hx : a.eval x = .pointer (some p)) (cs : List Value) (hc : ∀ w, C w → ∀ (j : Nat) (v : Value), cs[j]? = some v → w.cell? (p.add j) = some v) (d : TypeDesc)
    (hu : P.underlying ty = some d) (hd : (match d with | .struct _ | .array _ _ => true | _ => false) = true) (hi : (P.info? ty).map (·.size) = some cs.length)
    (h : K (a.put o.dst (.agg cs.toArray))) : o.quiet P a C K :=
  ⟨_, fun w hw => by
    unfold Oper.quietAt execOp
    simp only [ho, hx, Instr.loadAt, Instr.sureAddr, Sem.run_bind, Sem.run_pure, Result.andThen_ok, run_loadVar_agg w ty p cs d (hc w hw) hu hd hi]
    exact ⟨rfl, rfl⟩, h⟩
theorem box_cells {w wr : World} {row : List Value} {t : TypeId} (h : Below (w.heap.size + 1) (w.alloc (.cells row.toArray t)) wr) :
    ∀ (j : Nat) (v : Value), row[j]? = some v → wr.cell? ((⟨w.heap.size, 0, none⟩ : Addr).add j) = some v := by
  intro j v hv
  rw [add_none, h.cell (p := ⟨w.heap.size, 0 + j, none⟩) (by simp), (Blk.new w t _).cell]
  simpa using hv
theorem cells_alloc {wr : World} {row : List Value} {p : Addr} (h : ∀ (j : Nat) (v : Value), row[j]? = some v → wr.cell? (p.add j) = some v) (hp : p.block < wr.heap.size) (o : Obj) :
    ∀ (j : Nat) (v : Value), row[j]? = some v → (wr.alloc o).cell? (p.add j) = some v :=
  fun j v hv => (World.cell?_alloc_lt wr o _ (by rw [block_of_add]; exact hp)).trans (h j v hv)
theorem Past.cells {wr : World} {row : List Value} {p : Addr} (h : ∀ (j : Nat) (v : Value), row[j]? = some v → wr.cell? (p.add j) = some v) (y : Past wr) :
    ∀ (j : Nat) (v : Value), row[j]? = some v → y.1.cell? (p.add j) = some v := fun j v hv => Past.cell (h j v hv) y
theorem Past.cells' {wr : World} {row : List Value} {p : Addr} (h : ∀ (j : Nat) (v : Value), row[j]? = some v → wr.cell? (p.add j) = some v) :
    ∀ w', (∃ y : Past wr, w' = y.1) → ∀ (j : Nat) (v : Value), row[j]? = some v → w'.cell? (p.add j) = some v := by
  rintro _ ⟨y, rfl⟩; exact Past.cells h y
theorem find_stop {α : Type} {p : α → Bool} {xs : List α} {k : Nat} {x : α} (h : (xs.take k).any p = false) (hx : xs[k]? = some x) (hp : p x = true) : xs.findIdx? p = some k := by
  have hk := (List.getElem?_eq_some_iff.1 hx).1
  rw [List.findIdx?_eq_some_iff_getElem]
  refine ⟨hk, by rw [(List.getElem?_eq_some_iff.1 hx).2]; exact hp, fun j hj => ?_⟩
  have : xs[j] ∈ xs.take k := by rw [List.mem_iff_getElem]; exact ⟨j, by simp; omega, by simp⟩
  simpa using List.any_eq_false.1 h _ this
theorem find_end {α : Type} {p : α → Bool} {xs : List α} {n : Nat} (hl : xs.length = n) (h : (xs.take n).any p = false) : xs.findIdx? p = none := by
  rw [List.findIdx?_eq_none_iff]
  intro x hx
  rw [List.take_of_length_le (by omega)] at h
  simpa using List.any_eq_false.1 h x hx
theorem find_get {α : Type} {p : α → Bool} {xs : List α} {k : Nat} (h : xs.findIdx? p = some k) : ∃ x, xs[k]? = some x ∧ p x = true := by
  obtain ⟨hk, h1, _⟩ := List.findIdx?_eq_some_iff_getElem.1 h
  exact ⟨xs[k], List.getElem?_eq_getElem hk, h1⟩
/-- append as a step of a region that draws its order -/
theorem step_append_res {P : Program} {ops : Array Oper} {o : Oper} {a : Act} {w : World} {K : Act → World → Prop} {Q : Exit → Act → World → Prop} {E : Prop} (hg : o.guard = none) (s x : Operand) (t : TypeId)
    (ho : o.op = .call { callee := .builtin .append, args := #[s, x], argTypes := #[t, t] })
    (B : Nat) (e : TypeId) (i : TypeInfo) (z : Value) (sz bytes : Nat) (ht : P.underlying t = some (.slice e)) (hi : P.info? e = some i) (hz : i.zero = some z)
    (hsize : i.size = sz) (hby : i.bytes = bytes) (hzs : z.cells.size = sz) (hsz : 0 < sz) (A : Option Addr) (n cap : Nat) (rows : List (List Value)) (hs : a.eval s = .slice A n cap) (hR : Res B w e sz A n cap rows)
    (Bx : Nat) (X : Option Addr) (m c : Nat) (news : List (List Value)) (hx : a.eval x = .slice X m c) (hx0 : X = none → m = 0) (hX : Rd w Bx X sz news) (hm : news.length = m) (hnl : ∀ r ∈ news, r.length = sz) (h1 : ∀ r ∈ news, ∀ u ∈ r, u.oneCell' = true)
    (h63 : n + m ≤ 281474976710656) (hbytes : (n + m) * bytes ≤ 140737488355328) (hB : B ≤ w.heap.size)
    (h : ∀ A' c' w', Res B w' e sz A' (n + m) c' (rows ++ news) → Below B w w' → K (a.put o.dst (.slice A' (n + m) c')) w') :
    if Region.wanted o (yielded ops a.tmps) = true then Oper.wp P o a w K Q else E := by
  have hw : Region.wanted o (yielded ops a.tmps) = true := by simp [Region.wanted, hg]
  rw [if_pos hw]
  obtain ⟨A', c', w', hrun, h2, h3⟩ := run_append_res (P := P) w B t o.type e i z sz bytes ht hi hz hsize hby hzs hsz A n cap rows hR Bx X m c news hx0 hX hm hnl h1 h63 hbytes hB
  unfold Oper.wp execOp
  simp only [ho, resolve, invoke, builtin, Sem.run_bind, Sem.run_pure, Result.andThen_ok, List.map_toArray, List.map_cons, List.map_nil, hs, hx, hrun]
  exact h A' c' w' h2 h3
theorem Res.alloc {w : World} {B : Nat} {t : TypeId} {sz n cap : Nat} {A : Option Addr} {rows : List (List Value)} (h : Res B w t sz A n cap rows) (o : Obj) : Res B (w.alloc o) t sz A n cap rows :=
  h.past ((Below.refl _ _).alloc (Nat.le_refl _) _)
theorem Res.zero_at {w : World} {B : Nat} {t : TypeId} {sz g : Nat} (hB : B ≤ w.heap.size) (hg : w.heap.size = g) : Res B (w.alloc (.cells #[] t)) t sz (some ⟨g, 0, none⟩) 0 0 [] := by
  subst hg; exact Res.zero w B t sz hB
/-- append onto a slice that has just been made empty: nothing that is there turns -/
theorem run_append_zero {P : Program} (w : World) (g : Nat) (B : Nat) (t ty e : TypeId) (i : TypeInfo) (z : Value) (sz bytes : Nat) (ht : P.underlying t = some (.slice e)) (hi : P.info? e = some i) (hz : i.zero = some z)
    (hsize : i.size = sz) (hby : i.bytes = bytes) (hzs : z.cells.size = sz) (hsz : 0 < sz) (hR : Res B w e sz (some ⟨g, 0, none⟩) 0 0 [])
    (Bx : Nat) (X : Option Addr) (m c : Nat) (news : List (List Value)) (hx0 : X = none → m = 0) (hX : Rd w Bx X sz news) (hm : news.length = m) (hnl : ∀ r ∈ news, r.length = sz) (h1 : ∀ r ∈ news, ∀ u ∈ r, u.oneCell' = true)
    (h63 : m ≤ 281474976710656) (hbytes : m * bytes ≤ 140737488355328) (hB : B ≤ w.heap.size) :
    ∃ A' c' w', (Builtin.append_ #[t, t] ty #[.slice (some ⟨g, 0, none⟩) 0 0, .slice X m c]).run P w = .ok (.slice A' m c') w' ∧ Res B w' e sz A' m c' news ∧ Below B w w' ∧ w.grownBy w' (some g) := by
  rcases X with _ | ad
  · have hm0 := hx0 rfl
    subst hm0
    have hn : news = [] := List.eq_nil_of_length_eq_zero hm
    subst hn
    exact ⟨_, 0, w, run_append_of_nil w B t ty e i sz ht hi _ 0 _ hR.own c, hR, Below.refl _ _, World.grownBy.refl w _⟩
  · have hfl : (news.flatten).length = m * sz := by rw [flat_length hnl, hm]
    have hcells : ∀ (j : Nat) (u : Value), news.flatten[j]? = some u → w.cell? (ad.add j) = some u := by
      intro j u hu
      have hj : j < m * sz := by have := (List.getElem?_eq_some_iff.1 hu).1; omega
      have hk : j / sz < news.length := by rw [hm]; exact (Nat.div_lt_iff_lt_mul hsz).2 hj
      obtain ⟨r, hr⟩ := get_of_lt hk
      have hjm : j % sz < sz := Nat.mod_lt _ hsz
      have e1 : j = j / sz * sz + j % sz := by have := Nat.div_add_mod j sz; rw [Nat.mul_comm] at this; omega
      have e2 := flat_get hnl hr hjm
      rw [← e1, hu] at e2
      obtain ⟨ad', he, _, _, hc⟩ := hX.at_ hr
      injection he with he; subst he
      have := hc (j % sz) u e2.symm
      rwa [← e1] at this
    obtain ⟨v', w', hrun, h2, h3, _, _⟩ := run_append_own_at (P := P) w B t ty e i z sz bytes ht hi hz hsize hby hzs hsz (.slice (some ⟨g, 0, none⟩) 0 0) 0 [] (by simpa using hR.own) ad m c news.flatten hfl hcells
      (fun u hu => by obtain ⟨r, hr, hu⟩ := List.mem_flatten.1 hu; exact h1 r hr u hu) (by unfold maxLen; omega) (by rw [Nat.zero_add]; exact hbytes) hB
    obtain ⟨A', c', rfl⟩ := own_form w' h2
    have h3' : w.grownBy w' (some g) := by simpa [Value.ownBlock] using h3
    refine ⟨A', c', w', by simpa using hrun, ⟨by simpa using h2, hm, hnl⟩, (Below.refl _ _).grown h3' hB fun k hk => ?_, h3'⟩
    injection hk with hk
    subst hk
    exact (hR.lt rfl).1
theorem step_append_zero {P : Program} {ops : Array Oper} {o : Oper} {a : Act} {w : World} {K : Act → World → Prop} {Q : Exit → Act → World → Prop} {E : Prop} (hg : o.guard = none) (s x : Operand) (t : TypeId)
    (ho : o.op = .call { callee := .builtin .append, args := #[s, x], argTypes := #[t, t] })
    (g : Nat) (B : Nat) (e : TypeId) (i : TypeInfo) (z : Value) (sz bytes : Nat) (ht : P.underlying t = some (.slice e)) (hi : P.info? e = some i) (hz : i.zero = some z)
    (hsize : i.size = sz) (hby : i.bytes = bytes) (hzs : z.cells.size = sz) (hsz : 0 < sz) (hs : a.eval s = .slice (some ⟨g, 0, none⟩) 0 0) (hR : Res B w e sz (some ⟨g, 0, none⟩) 0 0 [])
    (Bx : Nat) (X : Option Addr) (m c : Nat) (news : List (List Value)) (hx : a.eval x = .slice X m c) (hx0 : X = none → m = 0) (hX : Rd w Bx X sz news) (hm : news.length = m) (hnl : ∀ r ∈ news, r.length = sz) (h1 : ∀ r ∈ news, ∀ u ∈ r, u.oneCell' = true)
    (h63 : m ≤ 281474976710656) (hbytes : m * bytes ≤ 140737488355328) (hB : B ≤ w.heap.size)
    (h : ∀ A' c' w', Res B w' e sz A' m c' news → Below B w w' → w.grownBy w' (some g) → K (a.put o.dst (.slice A' m c')) w') :
    if Region.wanted o (yielded ops a.tmps) = true then Oper.wp P o a w K Q else E := by
  have hw : Region.wanted o (yielded ops a.tmps) = true := by simp [Region.wanted, hg]
  rw [if_pos hw]
  obtain ⟨A', c', w', hrun, h2, h3, h4⟩ := run_append_zero (P := P) w g B t o.type e i z sz bytes ht hi hz hsize hby hzs hsz hR Bx X m c news hx0 hX hm hnl h1 h63 hbytes hB
  unfold Oper.wp execOp
  simp only [ho, resolve, invoke, builtin, Sem.run_bind, Sem.run_pure, Result.andThen_ok, List.map_toArray, List.map_cons, List.map_nil, hs, hx, hrun]
  exact h A' c' w' h2 h3 h4
/-- a row made ahead of the append lies where it lay -/
theorem Rd.row_kept {w w' : World} {g b : Nat} {r : List Value} (hc : ∀ (j : Nat) (v : Value), r[j]? = some v → w.cell? ⟨b, j, none⟩ = some v) (hl : b < w.heap.size) (hg : w.grownBy w' (some g)) (hne : b ≠ g) :
    Rd w' w'.heap.size (some ⟨b, 0, none⟩) r.length [r] := by
  have hR : Rd w w.heap.size (some ⟨b, 0, none⟩) r.length [r] := by
    refine .inr ⟨_, rfl, hl, fun q r' hr => ?_⟩
    have hq : q = 0 := by have := (List.getElem?_eq_some_iff.1 hr).1; simp at this; exact this
    subst hq
    simp only [List.getElem?_cons_zero, Option.some.injEq] at hr
    subst hr
    refine ⟨rfl, fun j v hv => ?_⟩
    rw [add_none]
    have := hc j v hv
    simpa using this
  exact (hR.grown (Nat.le_refl _) hg (fun ad he _ => by injection he with he; subst he; exact hne)).more hg.size
end Go.Proofs.YtlbllonpodckgaaGreatDoor
