/- How a law's arguments are opened (integers, slices of integers and of structs of integers, such structs by value, strings), and the step from 'the law returns true and leaves all that was there' to the law's row. No condition. -/
import Derived.Test.YtlbllonpodckgaaGreatDoorBase
import Derived.ProofKit
import Derived.OpenShut
import Derived.Deep.Slices
import Derived.Deep.Fields
import Derived.ChangeSame
namespace Go.Proofs.YtlbllonpodckgaaGreatDoor
open Go.ChangeShapes Go.WideShapes Go.ChangeAt Go.RowKit Go.Deep

/-- a number that fits int64 -/
def In64 (z : Int) : Prop := -9223372036854775808 ≤ z ∧ z ≤ 9223372036854775807
theorem in64_of_wf {z : Int} (h : (Lit.int .i64 z).wf = true) : In64 z := by simpa [Lit.wf, IntKind.min, IntKind.max, IntKind.signed, IntKind.bits, In64] using h

section
variable {H : Type} {enc : TypeId × Value → H} {P : Program} {w : World} {base : Nat} {spare : Nat → Bool} {held : Bool}

/-- all cells of a value of this type are int64, m of them -/
def IntCells (P : Program) (t : TypeId) (m : Nat) : Prop := ∀ (H : Type) (enc : TypeId × Value → H) (w : World) (base : Nat) (spare : Nat → Bool) (held : Bool) (fuel : Nat) (cs : List Value) (x : DataW H × List MemPlace),
  DataW.trod enc P w base spare held fuel t cs = some x → cs.length = m ∧ ∀ v ∈ cs, ∃ z : Int, v = .int .i64 z ∧ In64 z
theorem intCells_int {t : TypeId} (ht : P.underlying t = some (.int .i64)) : IntCells P t 1 := by
  intro H enc w base spare held fuel cs x h
  obtain ⟨n, rfl, _, wn⟩ := DataW.trod_int ht h
  exact ⟨rfl, fun v hv => ⟨n, by simpa using hv, in64_of_wf wn⟩⟩
theorem intCells_struct {t : TypeId} {fs : Array Field} {m : Nat} (ht : P.underlying t = some (.struct fs)) (hm : P.cellsOf t = m)
    (hc : ∀ j : Nat, j < m → ∃ (i : Nat) (f : Field), fs[i]? = some f ∧ f.offset ≤ j ∧ j < f.offset + P.cellsOf f.type ∧ IntCells P f.type (P.cellsOf f.type)) : IntCells P t m := by
  intro H enc w base spare held fuel cs x h
  obtain ⟨xs, n, _, _, hl, hxl, hf⟩ := DataW.trod_struct ht h
  refine ⟨hl.trans hm, fun v hv => ?_⟩
  obtain ⟨j, hj, rfl⟩ := List.getElem_of_mem hv
  obtain ⟨i, f, hfi, h1, h2, hi⟩ := hc j (by omega)
  have hlt : i < xs.length := by rw [hxl]; exact (Array.getElem?_eq_some_iff.1 hfi).1
  have hr := hf i f hfi
  rw [List.getElem?_eq_getElem hlt] at hr
  obtain ⟨hlen, hall⟩ := hi H enc w base spare held n _ _ hr
  refine hall _ (List.mem_iff_getElem?.2 ⟨j - f.offset, ?_⟩)
  rw [List.getElem?_take, if_pos (by omega), List.getElem?_drop, show f.offset + (j - f.offset) = j by omega, List.getElem?_eq_getElem hj]
theorem intCells_flat {t ti : TypeId} {fs : Array Field} {m : Nat} (ht : P.underlying t = some (.struct fs)) (hm : P.cellsOf t = m) (hi : P.underlying ti = some (.int .i64)) (hc : P.cellsOf ti = 1)
    (hf : ∀ j : Nat, j < m → ∃ f : Field, fs[j]? = some f ∧ f.offset = j ∧ f.type = ti) : IntCells P t m :=
  intCells_struct ht hm fun j hj => by
    obtain ⟨f, h1, h2, h3⟩ := hf j hj
    exact ⟨j, f, h1, by omega, by rw [h3, hc]; omega, by rw [h3, hc]; exact intCells_int hi⟩
theorem ints_of {cs : List Value} : (∀ v ∈ cs, ∃ z : Int, v = .int .i64 z ∧ In64 z) → ∃ zs : List Int, cs = zs.map (Value.int .i64) ∧ ∀ z ∈ zs, In64 z := by
  induction cs with
  | nil => intro _; exact ⟨[], rfl, by simp⟩
  | cons v r ih =>
    intro h
    obtain ⟨z, rfl, hz⟩ := h v (by simp)
    obtain ⟨zs, rfl, hzs⟩ := ih fun u hu => h u (by simp [hu])
    exact ⟨z :: zs, rfl, fun y hy => by rcases List.mem_cons.1 hy with rfl | hy; exact hz; exact hzs y hy⟩
theorem list_of {α : Type} {p : Nat → α → Prop} : ∀ (n : Nat), (∀ i : Nat, i < n → ∃ a, p i a) → ∃ l : List α, l.length = n ∧ ∀ (i : Nat) (a : α), l[i]? = some a → p i a
  | 0, _ => ⟨[], rfl, by simp⟩
  | n + 1, h => by
    obtain ⟨l, hl, hp⟩ := list_of n fun i hi => h i (by omega)
    obtain ⟨a, ha⟩ := h n (by omega)
    refine ⟨l ++ [a], by simp [hl], fun i b hb => ?_⟩
    rw [List.getElem?_append] at hb
    split at hb
    · exact hp i b hb
    · rename_i hge
      have : i = n := by
        have := (List.getElem?_eq_some_iff.1 hb).1
        simp at this; omega
      subst this
      simp [hl] at hb
      subst hb; exact ha

/-- rows of numbers as rows of cells -/
def numRows (rows : List (List Int)) : List (List Value) := rows.map fun r => r.map (Value.int .i64)
theorem open_rows {t e : TypeId} {m fuel n cap : Nat} {A : Option Addr} {x : DataW H × List MemPlace} (ht : P.underlying t = some (.slice e)) (hC : P.cellsOf e = m) (hm : 0 < m) (hi : IntCells P e m)
    (h : DataW.trod enc P w base spare held fuel t [.slice A n cap] = some x) :
    n ≤ maxLen ∧ ∃ rows : List (List Int), rows.length = n ∧ (∀ r ∈ rows, r.length = m ∧ ∀ z ∈ r, In64 z) ∧ Rd w w.heap.size A m (numRows rows) := by
  rcases open_slice ht h with ⟨h0, _⟩ | ⟨a, len, cap', m', n', D, Pl, hcs, hb, hl, hmx, hmm, _, hel⟩
  · simp only [List.cons.injEq, Value.slice.injEq, and_true] at h0
    obtain ⟨rfl, rfl, _⟩ := h0
    exact ⟨by omega, [], rfl, by simp, .inl rfl⟩
  · simp only [List.cons.injEq, Value.slice.injEq, and_true] at hcs
    obtain ⟨rfl, rfl, rfl⟩ := hcs
    have hle : n ≤ m' := by rw [hmm]; split <;> omega
    refine ⟨by omega, ?_⟩
    have each : ∀ i : Nat, i < n → ∃ r : List Int, (r.length = m ∧ ∀ z ∈ r, In64 z) ∧ ∀ (j : Nat) (v : Value), (r.map (Value.int .i64))[j]? = some v → w.cell? (a.add (i * m + j)) = some v := by
      intro i hin
      obtain ⟨cs', hc, htr⟩ := hel i (by omega)
      obtain ⟨hlen, hall⟩ := hi H enc w base spare held n' cs' _ htr
      obtain ⟨zs, rfl, hz⟩ := ints_of hall
      obtain ⟨_, hcl, hat⟩ := World.cells?_some hc
      refine ⟨zs, ⟨by simpa using hlen, hz⟩, fun j v hv => ?_⟩
      have hj : j < P.cellsOf e := by rw [hC]; have := (List.getElem?_eq_some_iff.1 hv).1; omega
      have := hat j hj
      rw [hC, add_of_add] at this
      rw [this, hv]
    obtain ⟨rows, hrl, hr⟩ := list_of n each
    refine ⟨rows, hrl, fun r hr' => ?_, ?_⟩
    · obtain ⟨i, hi', rfl⟩ := List.getElem_of_mem hr'
      exact (hr i _ (List.getElem?_eq_getElem hi')).1
    · rcases Nat.eq_zero_or_pos n with h0 | h0
      · have : rows = [] := List.eq_nil_of_length_eq_zero (by omega)
        subst this; exact .inl rfl
      · have hblk : a.block < w.heap.size := by
          obtain ⟨r, hr0⟩ := get_of_lt (xs := rows) (k := 0) (by omega)
          obtain ⟨⟨hl0, _⟩, hc0⟩ := hr 0 r hr0
          obtain ⟨z, hz⟩ := get_of_lt (xs := r) (k := 0) (by omega)
          have := block_lt_of_cell (hc0 0 (.int .i64 z) (by simp [hz]))
          rwa [block_of_add] at this
        refine .inr ⟨a, rfl, hblk, fun k r hk => ?_⟩
        simp only [numRows, List.getElem?_map, Option.map_eq_some_iff] at hk
        obtain ⟨r0, hk, rfl⟩ := hk
        exact ⟨by simpa using (hr k r0 hk).1.1, (hr k r0 hk).2⟩

/-- a struct of integers by value -/
theorem open_aggs {r : Reach} {b0 : Nat} {t : TypeId} {fs : Array Field} {m : Nat} {v : Value} {d : DataW H} {p : List MemPlace} (hs : P.underlying t = some (.struct fs)) (hi : IntCells P t m)
    (hv : Value.okWide P w r b0 t v) (h : DataW.Trod enc P w base spare held t v d p) : ∃ zs : List Int, v = .agg (zs.map (Value.int .i64)).toArray ∧ zs.length = m ∧ ∀ z ∈ zs, In64 z := by
  obtain ⟨cs, rfl, _⟩ := okWide_struct hs hv
  obtain ⟨fuel, hf⟩ := h
  obtain ⟨hl, hall⟩ := hi H enc w base spare held fuel _ _ hf
  obtain ⟨zs, hz, hzs⟩ := ints_of hall
  simp only [Value.cells] at hz hl
  refine ⟨zs, by rw [← hz], by rw [hz] at hl; simpa using hl, hzs⟩

theorem trodAll_below {W W' : World} (hl : laidOutB P = true) (hb : Below W.heap.size W W') : ∀ {ts : List TypeId} {vs : List Value} {ds : List (DataW H)} {ps : List MemPlace}, (∀ t ∈ ts, P.readableRec t = true ∧ t < P.types.size) →
    DataW.TrodAll enc P W 0 (fun _ => true) true ts vs ds ps → (∀ x ∈ ps, x.block < W.heap.size) → DataW.TrodAll enc P W' 0 (fun b => decide (b < W.heap.size)) true ts vs ds ps
  | [], _, _, _, _, h, _ => by
    obtain ⟨rfl, rfl, rfl⟩ := trodAll_nil h
    exact trodAll_mk0
  | t :: ts, _, _, _, ht, h, hlt => by
    obtain ⟨v, vs1, d, ds1, a, b, rfl, rfl, rfl, h1, h2⟩ := trodAll_cons h
    exact trodAll_cons_mk (Below.trod hl (ht t (by simp)).1 (ht t (by simp)).2 h1 hb (fun x hx => hlt x (by simp [hx])))
      (trodAll_below hl hb (fun u hu => ht u (by simp [hu])) h2 (fun x hx => hlt x (by simp [hx])))

theorem post_true {f : Func} {s : ChangeSpec} {tb : TypeId} {W W' : World} {args : Array Value} {ds : List (DataW H)} {before : List MemPlace} (hvars : s.vars = [])
    (hW : DataW.Whole enc P f.params.toList s.vars false W args.toList ds [] before) (hres : f.resultTypes = #[tb]) (htb : P.underlying tb = some .bool)
    (hs : s.fn H ds = { results := [.lit (.bool true)], args := ds }) (hl : laidOutB P = true) (hp : ∀ t ∈ f.params.toList, P.readableRec t = true ∧ t < P.types.size) (hb : Below W.heap.size W W') :
    s.post enc P f false true false false W args (.bool true) W' := by
  have hlt := hW.lt
  obtain ⟨p, q, hA, hV, rfl, hz, hn⟩ := id hW
  have hV' := hV
  rw [hvars] at hV'
  obtain ⟨_, rfl⟩ := trodVars_none hV'
  refine ⟨ds, [], p ++ [], [], p, [], hW, ?_, ?_, ?_, hb.frame _, fun h => by cases h⟩
  · simp only [List.append_nil, hs, hres]
    exact trodAll_cons_mk (shut_bool htb _) trodAll_mk0
  · simp only [List.append_nil, hs]
    exact trodAll_below hl hb hp hA (fun x hx => hlt x (by simp [hx]))
  · rw [hvars]; simp only [List.append_nil, hs]; rfl
end

theorem own_knob : ownKnob Tryz.prog.godebug = none := by kernel_rfl
theorem laid_out : laidOutB Tryz.prog = true := by kernel_rfl

set_option maxRecDepth 100000 in
/-- THE ROW's STEP, ONCE FOR ALL: what a law asks is its witness (closed facts) and the walk. -/
theorem law_lifted {k : FuncId} {fn : Func} {s : ChangeSpec} {conds : List PathCond} (os : Os) (started : os.Started) (H : Type) (enc : TypeId × Value → H) (tb : TypeId)
    (noInit : Tryz.prog.inits.idxOf? k = none) (hfn : Tryz.prog.funcs[k]? = some fn)
    (witness : ∃ (w : World) (tape : Tape) (i : Input), w.os = os ∧ (w.forCall tape i).Shaped Tryz.prog ∧ i.vars = [] ∧ Input.okWide Tryz.prog (w.forCall tape i) .any w.heap.size k i ∧
      s.pre6 enc Tryz.prog fn conds false (w.forCall tape i).memory i.args ∧ (Assume.holds {} Tryz.prog (lone (Frame.enter Tryz.prog k i.args .normal) [] (w.forCall tape i))))
    (hvars : s.vars = []) (hres : fn.resultTypes = #[tb]) (htb : Tryz.prog.underlying tb = some .bool) (hp : ∀ t ∈ fn.params.toList, Tryz.prog.readableRec t = true ∧ t < Tryz.prog.types.size)
    (hs : ∀ ds : List (DataW H), ds.length = fn.params.size → s.fn H ds = { results := [.lit (.bool true)], args := ds })
    (walk : ∀ (W : World) (base : Nat) (args : Array Value) (ds : List (DataW H)) (p : List MemPlace), (∀ (j : Nat) t v, fn.params[j]? = some t → args[j]? = some v → Value.okWide Tryz.prog W .any base t v) →
      DataW.TrodAll enc Tryz.prog W 0 (fun _ => true) true fn.params.toList args.toList ds p → Calls Tryz.prog k args W fun e W' => e = .returned (.bool true) ∧ Below W.heap.size W W') :
    ReturnsInHanded {} Tryz.checked os k .any (s.pre6 enc Tryz.prog fn conds false) (s.post enc Tryz.prog fn false true false false) := by
  refine returnsInHanded_of_change (C := Tryz.checked) own_knob started noInit hfn witness ?_
  intro W base args ds gs before hval hW _ _
  have hW' := hW
  obtain ⟨p, q, hA, hV, rfl, _, _⟩ := hW'
  have hV' := hV
  rw [hvars] at hV'
  obtain ⟨rfl, rfl⟩ := trodVars_none hV'
  refine (walk W base args ds p hval hA).mono fun e W' ⟨he, hb⟩ => ?_
  subst he
  have hlen : ds.length = fn.params.size := by
    have : ∀ {ts : List TypeId} {vs : List Value} {ds : List (DataW H)} {ps : List MemPlace}, DataW.TrodAll enc Tryz.prog W 0 (fun _ => true) true ts vs ds ps → ds.length = ts.length := by
      intro ts
      induction ts with
      | nil => intro vs ds ps h; obtain ⟨_, rfl, _⟩ := trodAll_nil h; rfl
      | cons t ts ih => intro vs ds ps h; obtain ⟨_, _, _, _, _, _, _, rfl, _, _, h2⟩ := trodAll_cons h; simp [ih h2]
    simpa using this hA
  exact ⟨_, rfl, post_true hvars hW hres htb (hs ds hlen) laid_out hp hb⟩
end Go.Proofs.YtlbllonpodckgaaGreatDoor
