/- What a card's laid list gives of all that reading and writing texts lean on. No condition. -/
import Derived.Test.YtlbllonpodckgaaGreatDoorDoor
import Derived.Test.YtlbllonpodckgaaGreatDoorRead1
import Derived.Stop.LaidErr
import Derived.Shelf.Vars
namespace Go.Proofs.YtlbllonpodckgaaGreatDoor
open Go.RowKit Go.Deep Go.BigFrame Go.ChangeShapes Go.WideShapes Go.ChangeAt

set_option maxRecDepth 100000 in
theorem law_liftedDS {k : FuncId} {fn : Func} {s : ChangeSpec} {conds : List PathCond} {laid : List (String × DataW Unit)} (os : Os) (started : os.Started) (H : Type) (enc : TypeId × Value → H) (F : Stop.Interp) (tb : TypeId)
    (noInit : Tryz.prog.inits.idxOf? k = none) (hfn : Tryz.prog.funcs[k]? = some fn)
    (witness : ∃ (w : World) (tape : Tape) (i : Input), w.os = os ∧ (w.forCall tape i).Shaped Tryz.prog ∧ i.vars = [] ∧ Input.okWide Tryz.prog (w.forCall tape i) .any w.heap.size k i ∧
      (OpenSpec.ofChange s).preRow enc Tryz.prog fn conds false laid (w.forCall tape i).memory i.args ∧ (Assume.holds {} Tryz.prog (lone (Frame.enter Tryz.prog k i.args .normal) [] (w.forCall tape i))))
    (hrow : varsRowed Tryz.prog s.vars = true) (hres : fn.resultTypes = #[tb]) (htb : Tryz.prog.underlying tb = some .bool) (hp : ∀ t ∈ fn.params.toList, Tryz.prog.readableRec t = true ∧ t < Tryz.prog.types.size)
    (hs : ∀ ds gs : List (DataW H), ds.length = fn.params.size → gs.length = s.vars.length → s.fn H (ds ++ gs) = { results := [.lit (.bool true)], args := ds, vars := gs })
    (walk : ∀ (W : World) (base : Nat) (args : Array Value) (ds : List (DataW H)) (p : List MemPlace), (∀ (j : Nat) t v, fn.params[j]? = some t → args[j]? = some v → Value.okWide Tryz.prog W .any base t v) →
      DataW.TrodAll enc Tryz.prog W 0 (fun _ => true) true fn.params.toList args.toList ds p → laidMetH Tryz.prog laid W → W.ShapedOpen Tryz.prog → Calls Tryz.prog k args W fun e W' => e = .returned (.bool true) ∧ Below W.heap.size W W') :
    ReturnsInHanded {} Tryz.checked os k .any ((OpenSpec.ofChange s).preRow enc Tryz.prog fn conds false laid) (((OpenSpec.ofChange s).at F).post enc Tryz.prog fn false true false false) := by
  refine returnsInHanded_of_row (C := Tryz.checked) (s := OpenSpec.ofChange s) own_knob started noInit hfn witness ?_
  intro W base args ds gs before hval hW _ _ _ hL hsh _
  obtain ⟨p, q, hA, hV, _, _, _⟩ := id hW
  refine (walk W base args ds p hval hA hL hsh).mono fun e W' ⟨he, hb⟩ => ?_
  subst he
  have hlen : ds.length = fn.params.size := by
    have : ∀ {ts : List TypeId} {vs : List Value} {ds : List (DataW H)} {ps : List MemPlace}, DataW.TrodAll enc Tryz.prog W 0 (fun _ => true) true ts vs ds ps → ds.length = ts.length := by
      intro ts
      induction ts with
      | nil => intro vs ds ps h; obtain ⟨_, rfl, _⟩ := trodAll_nil h; rfl
      | cons t ts ih => intro vs ds ps h; obtain ⟨_, _, _, _, _, _, _, rfl, _, _, h2⟩ := trodAll_cons h; simp [ih h2]
    simpa using this hA
  have hgl : gs.length = s.vars.length := by
    have : ∀ {ns : List String} {gs : List (DataW H)} {ps : List MemPlace}, DataW.TrodVars enc Tryz.prog W (fun _ => true) ns gs ps → gs.length = ns.length := by
      intro ns
      induction ns with
      | nil => intro gs ps h; cases gs with
        | nil => rfl
        | cons => exact h.elim
      | cons n ns ih => intro gs ps h; cases gs with
        | nil => exact h.elim
        | cons d ds => obtain ⟨_, _, _, _, _, _, _, _, _, _, h2, _⟩ := h; simp [ih h2]
    exact this hV
  exact ⟨_, rfl, post_true_vars hrow hW hres htb (hs ds gs hlen hgl) laid_out hp hb⟩
theorem names_of_vars {W : World} {rest : List (String × DataW Unit)} {ps : List MemPlace} (h : DataW.LaidVars Tryz.prog W (("loop.example/g01025/impl.accountNames", Rows.laid_loop_example_g01025_impl_accountNames) :: rest) ps) : Names W := by
  obtain ⟨g', t', cs, fuel, p, q, hg', ht', hvar, hd, _, _⟩ := h
  have hg : Tryz.prog.globalNamed "loop.example/g01025/impl.accountNames" = some 0 := by kernel_rfl
  have hty : (Tryz.prog.globals[0]?).map (·.type) = some 175 := by kernel_rfl
  obtain rfl := Option.some.inj (hg.symm.trans hg')
  obtain rfl := Option.some.inj (hty.symm.trans ht')
  have hc := cells_of_strs (ss := nameL) Tryz.underlying175 Tryz.underlying9 (by kernel_rfl) (by kernel_rfl) hd
  intro k hk
  have h1 := World.var?_cell hg hvar k
  rw [h1]
  have h2 : cs[k]? = (nameL.map fun s => Value.string s)[k]? := by rw [← hc]; simp
  rw [h2]
  have hl : nameL.length = 10 := rfl
  simp [nameB, List.getD, hl, hk]
theorem tab_of_vars {W : World} {rest : List (String × DataW Unit)} {ps : List MemPlace} (h : DataW.LaidVars Tryz.prog W (("internal/strconv.uint64pow10", Rows.laid_internal_strconv_uint64pow10) :: rest) ps) : Tab W := by
  obtain ⟨g', t', cs, fuel, p, q, hg', ht', hvar, hd, _, _⟩ := h
  have hg : Tryz.prog.globalNamed "internal/strconv.uint64pow10" = some 6 := by kernel_rfl
  have hty : (Tryz.prog.globals[6]?).map (·.type) = some 221 := by kernel_rfl
  obtain rfl := Option.some.inj (hg.symm.trans hg')
  obtain rfl := Option.some.inj (hty.symm.trans ht')
  have he : (Rows.laid_internal_strconv_uint64pow10 : DataW Unit) = Lib.tabData .u64 Lib.pow10Tab := by rfl
  rw [he] at hd
  unfold Tab Lib.TabIs
  rw [hvar, ← Lib.cells_of_tab Tryz.underlying221 Tryz.underlying36 (by kernel_rfl) (by kernel_rfl) hd]
theorem vars_tail {W : World} {x : String × DataW Unit} {rest : List (String × DataW Unit)} {ps : List MemPlace} (h : DataW.LaidVars Tryz.prog W (x :: rest) ps) : ∃ q, DataW.LaidVars Tryz.prog W rest q := by
  obtain ⟨_, _, _, _, _, q, _, _, _, _, h2, _⟩ := h
  exact ⟨q, h2⟩
/-- the value that a datum of a table lays -/
def valOf : DataW Unit → Value
  | .lit (.int k z) => .int k z
  | .lit (.string b) => .string ⟨b.toArray⟩
  | _ => .nilIface
def valsOf : DataW Unit → List Value
  | .agg ds => ds.map valOf
  | _ => []

theorem err_row (u : TypeId) (h : Tryz.prog.typeName? 3 u = some "*errors.errorString") : u = 231 :=
  typeName_ptr_named (nm := "errors.errorString") (by rw [show "*" ++ "errors.errorString" = "*errors.errorString" by decide]; kernel_rfl) (by kernel_rfl) (by decide) u (by rw [show "*" ++ "errors.errorString" = "*errors.errorString" by decide]; exact h)
theorem syn_of {W : World} {text : List UInt8} {r : List (String × DataW Unit)} (h : laidMet Tryz.prog (("strconv.ErrSyntax", .iface "*errors.errorString" (.ptr (.agg [.lit (.string text)]))) :: r) W) :
    ∃ ev, W.cell? ⟨1, 0, none⟩ = some ev ∧ (ev = .nilIface ∨ ∃ te pe, ev = .iface te pe) := by
  have hg : Tryz.prog.globalNamed "strconv.ErrSyntax" = some 1 := by kernel_rfl
  have ht : (Tryz.prog.globals[1]?).map (·.type) = some 95 := by kernel_rfl
  obtain ⟨a0, _, hv0, _⟩ := laid_sentinel h hg ht Tryz.underlying95 err_row Tryz.underlying231 Tryz.underlying233 rfl rfl Tryz.underlying9 (by kernel_rfl) (by kernel_rfl)
  exact ⟨_, by have h0 := World.var?_cell hg hv0 0; simpa using h0, .inr ⟨_, _, rfl⟩⟩
theorem rng_of {W : World} {text : List UInt8} {r : List (String × DataW Unit)} (h : laidMet Tryz.prog (("strconv.ErrRange", .iface "*errors.errorString" (.ptr (.agg [.lit (.string text)]))) :: r) W) :
    ∃ ev, W.cell? ⟨2, 0, none⟩ = some ev ∧ (ev = .nilIface ∨ ∃ te pe, ev = .iface te pe) := by
  have hg : Tryz.prog.globalNamed "strconv.ErrRange" = some 2 := by kernel_rfl
  have ht : (Tryz.prog.globals[2]?).map (·.type) = some 95 := by kernel_rfl
  obtain ⟨a0, _, hv0, _⟩ := laid_sentinel h hg ht Tryz.underlying95 err_row Tryz.underlying231 Tryz.underlying233 rfl rfl Tryz.underlying9 (by kernel_rfl) (by kernel_rfl)
  exact ⟨_, by have h0 := World.var?_cell hg hv0 0; simpa using h0, .inr ⟨_, _, rfl⟩⟩
theorem mx_of {W : World} (h : W.ShapedOpen Tryz.prog) : ∃ m, W.cell? ⟨3, 0, none⟩ = some (.int .i64 m) :=
  cell_of_shapedOpen_int (zero := #[.int .i64 0]) (t := 3) h (of_decide_eq_true (by kernel_rfl)) (by kernel_rfl) rfl (by kernel_rfl) (by kernel_rfl) Tryz.underlying3
end Go.Proofs.YtlbllonpodckgaaGreatDoor
