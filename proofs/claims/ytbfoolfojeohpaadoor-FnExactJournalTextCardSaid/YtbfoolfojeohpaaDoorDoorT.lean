/- What the row's list gives of the four tables: the names of the accounts and the powers of ten. No condition. -/
import Derived.Test.YtbfoolfojeohpaaDoorDoor
import Derived.Test.YtbfoolfojeohpaaDoorTextI
namespace Go.Proofs.YtbfoolfojeohpaaDoor
open Go.RowKit Go.Deep Go.BigFrame Go.ChangeShapes Go.WideShapes Go.ChangeAt

theorem names_of_vars {W : World} {rest : List (String × DataW Unit)} {ps : List MemPlace} (h : DataW.LaidVars Tryd.prog W (("loop.example/g01025/impl.accountNames", Rows.laid_loop_example_g01025_impl_accountNames) :: rest) ps) : Names W := by
  obtain ⟨g', t', cs, fuel, p, q, hg', ht', hvar, hd, _, _⟩ := h
  have hg : Tryd.prog.globalNamed "loop.example/g01025/impl.accountNames" = some 0 := by kernel_rfl
  have hty : (Tryd.prog.globals[0]?).map (·.type) = some 58 := by kernel_rfl
  obtain rfl := Option.some.inj (hg.symm.trans hg')
  obtain rfl := Option.some.inj (hty.symm.trans ht')
  have hc := cells_of_strs (ss := nameL) Tryd.underlying58 Tryd.underlying9 (by kernel_rfl) (by kernel_rfl) hd
  intro k hk
  have h1 := World.var?_cell hg hvar k
  rw [h1]
  have h2 : cs[k]? = (nameL.map fun s => Value.string s)[k]? := by rw [← hc]; simp
  rw [h2]
  have hl : nameL.length = 10 := rfl
  simp [nameB, List.getD, hl, hk]
theorem tab_of_vars {W : World} {rest : List (String × DataW Unit)} {ps : List MemPlace} (h : DataW.LaidVars Tryd.prog W (("internal/strconv.uint64pow10", Rows.laid_internal_strconv_uint64pow10) :: rest) ps) : Tab W := by
  obtain ⟨g', t', cs, fuel, p, q, hg', ht', hvar, hd, _, _⟩ := h
  have hg : Tryd.prog.globalNamed "internal/strconv.uint64pow10" = some 1 := by kernel_rfl
  have hty : (Tryd.prog.globals[1]?).map (·.type) = some 81 := by kernel_rfl
  obtain rfl := Option.some.inj (hg.symm.trans hg')
  obtain rfl := Option.some.inj (hty.symm.trans ht')
  have he : (Rows.laid_internal_strconv_uint64pow10 : DataW Unit) = Lib.tabData .u64 Lib.pow10Tab := by rfl
  rw [he] at hd
  unfold Tab Lib.TabIs
  rw [hvar, ← Lib.cells_of_tab Tryd.underlying81 Tryd.underlying68 (by kernel_rfl) (by kernel_rfl) hd]
theorem vars_tail {W : World} {x : String × DataW Unit} {rest : List (String × DataW Unit)} {ps : List MemPlace} (h : DataW.LaidVars Tryd.prog W (x :: rest) ps) : ∃ q, DataW.LaidVars Tryd.prog W rest q := by
  obtain ⟨_, _, _, _, _, q, _, _, _, _, h2, _⟩ := h
  exact ⟨q, h2⟩
/-- the value that a datum of a table lays -/
def valOf : DataW Unit → Value
  | .lit (.int k z) => .int k z
  | .lit (.string b) => .string ⟨b.toArray⟩
  | _ => .nilIface
def valsOf : DataW Unit → List Value
  | .agg ds => ds.map valOf
  | _ => []
end Go.Proofs.YtbfoolfojeohpaaDoor
