/- Parts of a proof, one after another: DrawLaw, Held, DoorE. No condition. -/
import Derived.Test.YtkdfdbcpbgganaaGreatDoorK1
import Derived.Test.YtkdfdbcpbgganaaGreatDoorK4
import Derived.Test.YtkdfdbcpbgganaaGreatDoorK6
import Derived.Test.YtkdfdbcpbgganaaGreatDoorK13
import Derived.Stop.LaidErr
import Derived.Shelf.Vars
/- How a law that draws opens its code, and from its walk to its row. No condition. -/
section
namespace Go.Proofs.YtkdfdbcpbgganaaGreatDoor
open Go.ChangeShapes Go.WideShapes Go.ChangeAt Go.RowKit Go.Deep

section
variable {H : Type} {enc : TypeId × Value → H} {P : Program} {w : World} {base : Nat} {spare : Nat → Bool} {held : Bool}
theorem open_code {t e : TypeId} {fuel n cap : Nat} {A : Option Addr} {x : DataW H × List MemPlace} (ht : P.underlying t = some (.slice e)) (he : P.underlying e = some (.int .u8)) (hC : P.cellsOf e = 1)
    (h : DataW.trod enc P w base spare held fuel t [.slice A n cap] = some x) :
    ∃ bs : List Int, bs.length = n ∧ (∀ z ∈ bs, 0 ≤ z ∧ z ≤ 255) ∧ Rd w w.heap.size A 1 (byteRows bs) ∧ n ≤ 9223372036854775807 := by
  rcases open_slice ht h with ⟨h0, _⟩ | ⟨a, len, cap', m', n', D, Pl, hcs, hb, hl, hmx, hmm, _, hel⟩
  · simp only [List.cons.injEq, Value.slice.injEq, and_true] at h0
    obtain ⟨rfl, rfl, _⟩ := h0
    exact ⟨[], rfl, by simp, .inl rfl, by omega⟩
  · simp only [List.cons.injEq, Value.slice.injEq, and_true] at hcs
    obtain ⟨rfl, rfl, rfl⟩ := hcs
    have hle : n ≤ m' := by rw [hmm]; split <;> omega
    have each : ∀ i : Nat, i < n → ∃ z : Int, (0 ≤ z ∧ z ≤ 255) ∧ w.cell? (a.add i) = some (.int .u8 z) := by
      intro i hin
      obtain ⟨cs', hc, htr⟩ := hel i (by omega)
      obtain ⟨z, rfl, _, wn⟩ := DataW.trod_int he htr
      obtain ⟨_, hcl, hat⟩ := World.cells?_some hc
      have := hat 0 (by rw [hC]; omega)
      rw [hC, add_of_add] at this
      refine ⟨z, ?_, by simpa using this⟩
      simpa [Lit.wf, IntKind.min, IntKind.max, IntKind.signed, IntKind.bits] using wn
    obtain ⟨bs, hbl, hbs⟩ := list_of n each
    have hmx' : n ≤ 9223372036854775807 := by unfold maxLen at *; omega
    refine ⟨bs, hbl, fun z hz => ?_, ?_, hmx'⟩
    · obtain ⟨i, hi', rfl⟩ := List.getElem_of_mem hz
      exact (hbs i _ (List.getElem?_eq_getElem hi')).1
    · rcases Nat.eq_zero_or_pos n with h0 | h0
      · have : bs = [] := List.eq_nil_of_length_eq_zero (by omega)
        subst this; exact .inl rfl
      · have hblk : a.block < w.heap.size := by
          obtain ⟨z, hz⟩ := get_of_lt (xs := bs) (k := 0) (by omega)
          have := block_lt_of_cell (hbs 0 z hz).2
          rwa [block_of_add] at this
        refine .inr ⟨a, rfl, hblk, fun k r hk => ?_⟩
        simp only [byteRows, List.getElem?_map, Option.map_eq_some_iff] at hk
        obtain ⟨z, hk, rfl⟩ := hk
        refine ⟨rfl, fun j v hv => ?_⟩
        have hj : j = 0 := by have := (List.getElem?_eq_some_iff.1 hv).1; simp at this; exact this
        subst hj
        simp only [List.getElem?_cons_zero, Option.some.injEq] at hv
        subst hv
        simpa using (hbs k z hk).2
end
theorem laws_big_any (A : Option Addr) (n cap : Nat) (w : World) (_hn : n ≤ 9223372036854775807) : Calls Tryz.prog 5 #[.slice A n cap] w fun e w' => e = .returned (.bool (decide (4096 < n))) ∧ w = w' := by
  by_cases h : 4096 < n
  · go_enter Tryz.func5, Tryz.ntmps5
    go_wp2
    go_ret
    exact ⟨by simp; omega, rfl⟩
  · go_enter Tryz.func5, Tryz.ntmps5
    go_wp2
    go_ret
    exact ⟨by simp; omega, rfl⟩
end Go.Proofs.YtkdfdbcpbgganaaGreatDoor
end

/- Slices that are read in later worlds, many at once. -/
section
namespace Go.Proofs.YtkdfdbcpbgganaaGreatDoor
open Go.RowKit Go.BigFrame
def Held (w : World) (L : List (Option Addr × Nat × List (List Value))) : Prop := ∀ x ∈ L, Rd w w.heap.size x.1 x.2.1 x.2.2
theorem Held.nil (w : World) : Held w [] := by intro x hx; cases hx
section
variable {w w' : World} {L : List (Option Addr × Nat × List (List Value))} {A : Option Addr} {sz : Nat} {rows : List (List Value)}
theorem Held.past (h : Held w L) (hb : Below w.heap.size w w') : Held w' L := fun x hx => (h x hx).past hb
theorem Held.snoc (h : Held w L) (hr : Rd w w.heap.size A sz rows) : Held w (L ++ [(A, sz, rows)]) := by
  intro x hx
  rcases List.mem_append.1 hx with hx | hx
  · exact h x hx
  · simp only [List.mem_singleton] at hx; rw [hx]; exact hr
theorem Held.cons (h : Held w L) (hr : Rd w w.heap.size A sz rows) : Held w ((A, sz, rows) :: L) := by
  intro x hx
  rcases List.mem_cons.1 hx with hx | hx
  · rw [hx]; exact hr
  · exact h x hx
theorem Held.get (h : Held w L) (k : Nat) (e : L[k]? = some (A, sz, rows)) : Rd w w.heap.size A sz rows := h _ (List.mem_of_getElem? e)
end
theorem Blk.rd {w : World} {g : Nat} {t : TypeId} {r : List Value} (h : Blk w g t r.toArray) : Rd w w.heap.size (some ⟨g, 0, none⟩) r.length [r] := by
  refine .inr ⟨_, rfl, h.lt, fun k r' hk => ?_⟩
  have h0 : k = 0 := by have := (List.getElem?_eq_some_iff.1 hk).1; simp at this; exact this
  subst h0
  simp only [List.getElem?_cons_zero, Option.some.injEq] at hk
  subst hk
  exact ⟨rfl, fun j v hv => by rw [add_none, h.cell]; simpa using hv⟩
/-- the cells of the one row of a box -/
theorem Rd.box {w : World} {B : Nat} {g sz : Nat} {r : List Value} (h : Rd w B (some ⟨g, 0, none⟩) sz [r]) : ∀ (j : Nat) (v : Value), r[j]? = some v → w.cell? ((⟨g, 0, none⟩ : Addr).add j) = some v := by
  intro j v hv
  rcases h with h | ⟨ad, e, _, hc⟩
  · cases h
  · injection e with e; subst e
    have := (hc 0 r rfl).2 j v hv
    simpa using this
theorem res_cap {w : World} {B t sz n cap : Nat} {A : Option Addr} {rows : List (List Value)} (h : Res B w t sz A n cap rows) : n ≤ cap := by
  rcases h.own.2 with ⟨h1, h2⟩ | ⟨g, c, cur, e, _, _, hnc, _⟩
  · simp only [Value.slice.injEq] at h1; omega
  · simp only [Value.slice.injEq] at e; omega
theorem Rd.boxT {w : World} {B g sz : Nat} {a b c : Value} (h : Rd w B (some ⟨g, 0, none⟩) sz [[a, b, c]]) : ∀ (j : Nat) (v : Value), [a, b][j]? = some v → w.cell? ((⟨g, 0, none⟩ : Addr).add j) = some v := fun j v hv => Rd.box h j v (by
  match j, hv with
  | 0, hv => simpa using hv
  | 1, hv => simpa using hv)
theorem below_all {w0 w1 w2 : World} (h : Below w0.heap.size w0 w1) (hb : Below w1.heap.size w1 w2) : Below w0.heap.size w0 w2 := h.trans (hb.mono h.size)
end Go.Proofs.YtkdfdbcpbgganaaGreatDoor
end

/- What a card's laid list gives of all that reading and writing texts lean on. No condition. -/
section
namespace Go.Proofs.YtkdfdbcpbgganaaGreatDoor
open Go.RowKit Go.Deep Go.BigFrame Go.ChangeShapes Go.WideShapes Go.ChangeAt

set_option maxRecDepth 100000 in
theorem law_liftedDS {k : FuncId} {fn : Func} {s : ChangeSpec} {conds : List PathCond} {laid : List (String × DataW Unit)} (os : Os) (started : os.Started) (H : Type) (enc : TypeId × Value → H) (F : Stop.Interp) (tb : TypeId)
    (noInit : Tryz.prog.inits.idxOf? k = none) (hfn : Tryz.prog.funcs[k]? = some fn)
    (witness : ∃ (w : World) (tape : Tape) (i : Input), w.os = os ∧ (w.forCall tape i).Shaped Tryz.prog ∧ i.vars = [] ∧ Input.okWide Tryz.prog (w.forCall tape i) .any w.heap.size k i ∧
      (OpenSpec.ofChange s).preRow enc Tryz.prog fn conds false laid (w.forCall tape i).memory i.args ∧ (Assume.holds {} Tryz.prog (lone (Frame.enter Tryz.prog k i.args .normal) [] (w.forCall tape i))))
    (hrow : varsRowed Tryz.prog s.vars = true) (hres : fn.resultTypes = #[tb]) (htb : Tryz.prog.underlying tb = some .bool) (hp : ∀ t ∈ fn.params.toList, Tryz.prog.readableRec t = true ∧ t < Tryz.prog.types.size)
    (hs : ∀ ds gs : List (DataW H), ds.length = fn.params.size → gs.length = s.vars.length → s.fn H (ds ++ gs) = { results := [.lit (.bool true)], args := ds, vars := gs })
    (walk : ∀ (W : World) (base : Nat) (args : Array Value) (ds : List (DataW H)) (p : List MemPlace), (∀ (j : Nat) t v, fn.params[j]? = some t → args[j]? = some v → Value.okWide Tryz.prog W .any base t v) →
      DataW.TrodAll enc Tryz.prog W 0 (fun _ => true) true fn.params.toList args.toList ds p → laidMetH Tryz.prog laid W → W.ShapedOpen Tryz.prog → Calls Tryz.prog k args W fun e W' => e = .returned (.bool true) ∧ Below W.heap.size W W') :
    ReturnsInHanded {} Tryz.checked os k .any ((OpenSpec.ofChange s).preRow enc Tryz.prog fn conds false laid) (((OpenSpec.ofChange s).at F).post enc Tryz.prog fn false true false false) := by
  refine returnsInHanded_of_row (C := Tryz.checked) (s := OpenSpec.ofChange s) own_knob started noInit hfn witness ?_
  intro W base args ds gs before hval hW _ _ _ hL hsh _
  obtain ⟨p, q, hA, hV, _, _, _⟩ := id hW
  refine (walk W base args ds p hval hA hL hsh).mono fun e W' ⟨he, hb⟩ => ?_
  subst he
  have hlen : ds.length = fn.params.size := by
    have : ∀ {ts : List TypeId} {vs : List Value} {ds : List (DataW H)} {ps : List MemPlace}, DataW.TrodAll enc Tryz.prog W 0 (fun _ => true) true ts vs ds ps → ds.length = ts.length := by
      intro ts
      induction ts with
      | nil => intro vs ds ps h; obtain ⟨_, rfl, _⟩ := trodAll_nil h; rfl
      | cons t ts ih => intro vs ds ps h; obtain ⟨_, _, _, _, _, _, _, rfl, _, _, h2⟩ := trodAll_cons h; simp [ih h2]
    simpa using this hA
  have hgl : gs.length = s.vars.length := by
    have : ∀ {ns : List String} {gs : List (DataW H)} {ps : List MemPlace}, DataW.TrodVars enc Tryz.prog W (fun _ => true) ns gs ps → gs.length = ns.length := by
      intro ns
      induction ns with
      | nil => intro gs ps h; cases gs with
        | nil => rfl
        | cons => exact h.elim
      | cons n ns ih => intro gs ps h; cases gs with
        | nil => exact h.elim
        | cons d ds => obtain ⟨_, _, _, _, _, _, _, _, _, _, h2, _⟩ := h; simp [ih h2]
    exact this hV
  exact ⟨_, rfl, post_true_vars hrow hW hres htb (hs ds gs hlen hgl) laid_out hp hb⟩
theorem tab_of_vars {W : World} {rest : List (String × DataW Unit)} {ps : List MemPlace} (h : DataW.LaidVars Tryz.prog W (("internal/strconv.uint64pow10", Rows.laid_internal_strconv_uint64pow10) :: rest) ps) : Tab W := by
  obtain ⟨g', t', cs, fuel, p, q, hg', ht', hvar, hd, _, _⟩ := h
  have hg : Tryz.prog.globalNamed "internal/strconv.uint64pow10" = some 4 := by kernel_rfl
  have hty : (Tryz.prog.globals[4]?).map (·.type) = some 177 := by kernel_rfl
  obtain rfl := Option.some.inj (hg.symm.trans hg')
  obtain rfl := Option.some.inj (hty.symm.trans ht')
  have he : (Rows.laid_internal_strconv_uint64pow10 : DataW Unit) = Lib.tabData .u64 Lib.pow10Tab := by rfl
  rw [he] at hd
  unfold Tab Lib.TabIs
  rw [hvar, ← Lib.cells_of_tab Tryz.underlying177 Tryz.underlying147 (by kernel_rfl) (by kernel_rfl) hd]
theorem vars_tail {W : World} {x : String × DataW Unit} {rest : List (String × DataW Unit)} {ps : List MemPlace} (h : DataW.LaidVars Tryz.prog W (x :: rest) ps) : ∃ q, DataW.LaidVars Tryz.prog W rest q := by
  obtain ⟨_, _, _, _, _, q, _, _, _, _, h2, _⟩ := h
  exact ⟨q, h2⟩
/-- the value that a datum of a table lays -/
def valOf : DataW Unit → Value
  | .lit (.int k z) => .int k z
  | .lit (.string b) => .string ⟨b.toArray⟩
  | _ => .nilIface
def valsOf : DataW Unit → List Value
  | .agg ds => ds.map valOf
  | _ => []

theorem err_row (u : TypeId) (h : Tryz.prog.typeName? 3 u = some "*errors.errorString") : u = 190 :=
  typeName_ptr_named (nm := "errors.errorString") (by rw [show "*" ++ "errors.errorString" = "*errors.errorString" by decide]; kernel_rfl) (by kernel_rfl) (by decide) u (by rw [show "*" ++ "errors.errorString" = "*errors.errorString" by decide]; exact h)
theorem syn_of {W : World} {text : List UInt8} {r : List (String × DataW Unit)} (h : laidMet Tryz.prog (("strconv.ErrSyntax", .iface "*errors.errorString" (.ptr (.agg [.lit (.string text)]))) :: r) W) :
    ∃ ev, W.cell? ⟨0, 0, none⟩ = some ev ∧ (ev = .nilIface ∨ ∃ te pe, ev = .iface te pe) := by
  have hg : Tryz.prog.globalNamed "strconv.ErrSyntax" = some 0 := by kernel_rfl
  have ht : (Tryz.prog.globals[0]?).map (·.type) = some 87 := by kernel_rfl
  obtain ⟨a0, _, hv0, _⟩ := laid_sentinel h hg ht Tryz.underlying87 err_row Tryz.underlying190 Tryz.underlying192 rfl rfl Tryz.underlying9 (by kernel_rfl) (by kernel_rfl)
  exact ⟨_, by have h0 := World.var?_cell hg hv0 0; simpa using h0, .inr ⟨_, _, rfl⟩⟩
theorem rng_of {W : World} {text : List UInt8} {r : List (String × DataW Unit)} (h : laidMet Tryz.prog (("strconv.ErrRange", .iface "*errors.errorString" (.ptr (.agg [.lit (.string text)]))) :: r) W) :
    ∃ ev, W.cell? ⟨1, 0, none⟩ = some ev ∧ (ev = .nilIface ∨ ∃ te pe, ev = .iface te pe) := by
  have hg : Tryz.prog.globalNamed "strconv.ErrRange" = some 1 := by kernel_rfl
  have ht : (Tryz.prog.globals[1]?).map (·.type) = some 87 := by kernel_rfl
  obtain ⟨a0, _, hv0, _⟩ := laid_sentinel h hg ht Tryz.underlying87 err_row Tryz.underlying190 Tryz.underlying192 rfl rfl Tryz.underlying9 (by kernel_rfl) (by kernel_rfl)
  exact ⟨_, by have h0 := World.var?_cell hg hv0 0; simpa using h0, .inr ⟨_, _, rfl⟩⟩
theorem mx_of {W : World} (h : W.ShapedOpen Tryz.prog) : ∃ m, W.cell? ⟨5, 0, none⟩ = some (.int .i64 m) :=
  cell_of_shapedOpen_int (zero := #[.int .i64 0]) (t := 3) h (of_decide_eq_true (by kernel_rfl)) (by kernel_rfl) rfl (by kernel_rfl) (by kernel_rfl) Tryz.underlying3
end Go.Proofs.YtkdfdbcpbgganaaGreatDoor
end
