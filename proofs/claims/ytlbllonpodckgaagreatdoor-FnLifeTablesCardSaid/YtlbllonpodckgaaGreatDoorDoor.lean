/- A law over the table of the accounts' names: what the row's list gives, and the row's step once for all. No condition. -/
import Derived.Test.YtlbllonpodckgaaGreatDoorLaw
import Derived.Test.YtlbllonpodckgaaGreatDoorNum
import Derived.Test.YtlbllonpodckgaaGreatDoorCards
import Derived.Test.YtlbllonpodckgaaGreatDoorTie
import Derived.OpenVars
import Derived.OpenShut
import Derived.Deep.DeepHandedRow
import Derived.Lib.LaidTab
namespace Go.Proofs.YtlbllonpodckgaaGreatDoor
open Go.RowKit Go.Deep Go.BigFrame Go.ChangeShapes Go.WideShapes Go.ChangeAt

def nameL : List ByteArray := [⟨#[99, 97, 115, 104]⟩, ⟨#[98, 111, 110, 100, 115]⟩, ⟨#[108, 111, 97, 110, 115]⟩, ⟨#[112, 114, 101, 109, 105, 117, 109, 115]⟩, ⟨#[99, 108, 97, 105, 109, 115]⟩, ⟨#[101, 120, 112, 101, 110, 115, 101, 115]⟩, ⟨#[105, 110, 116, 101, 114, 101, 115, 116]⟩, ⟨#[114, 101, 115, 101, 114, 118, 101]⟩, ⟨#[98, 111, 110, 117, 115]⟩, ⟨#[99, 97, 112, 105, 116, 97, 108]⟩]
def nameB (k : Nat) : ByteArray := nameL.getD k ⟨#[]⟩
/-- the table of the names lies where the program keeps it -/
def Names (w : World) : Prop := ∀ k : Nat, k < 10 → w.cell? ⟨0, k, none⟩ = some (.string (nameB k))
theorem Names.below {w w' : World} {B : Nat} (h : Names w) (hb : Below B w w') (hB : 0 < B) : Names w' := fun k hk => (hb.cell (p := ⟨0, k, none⟩) hB).trans (h k hk)
theorem Names.lt {w : World} (h : Names w) : 0 < w.heap.size := block_lt_of_cell (h 0 (by omega))
theorem Names.past {w w' : World} (h : Names w) (hb : Below w.heap.size w w') : Names w' := h.below hb h.lt

theorem cells_of_strs {H : Type} {enc : TypeId × Value → H} {P : Program} {w : World} {base : Nat} {sp : Nat → Bool} {held : Bool} {fuel : Nat} {t e : TypeId} {n : Nat} {cs : List Value} {ss : List ByteArray} {p : List MemPlace}
    (ht : P.underlying t = some (.array n e)) (he : P.underlying e = some .string) (hce : P.cellsOf e = 1) (hct : P.cellsOf t = n)
    (h : DataW.trod enc P w base sp held fuel t cs = some (.agg (ss.map fun s => .lit (.string s.data.toList)), p)) : cs = ss.map fun s => Value.string s := by
  cases fuel with
  | zero => simp [DataW.trod] at h
  | succ fuel =>
    simp only [DataW.trod, ht, hce, hct, Nat.mul_one] at h
    split at h
    · rename_i hl
      obtain ⟨xs, hm, hx⟩ := Option.map_eq_some_iff.1 h
      have hxs : xs.map (·.1) = ss.map fun s => (DataW.lit (.string s.data.toList) : DataW H) := by
        have := congrArg Prod.fst hx
        simpa using this
      have hxl : xs.length = n := by simpa using Lib.mapM_length hm
      have hzl : ss.length = n := by
        have := congrArg List.length hxs
        simp at this
        omega
      apply List.ext_getElem?
      intro i
      by_cases hi : i < n
      · obtain ⟨b, hb, hf⟩ := Lib.mapM_at hm i i (by simp [hi])
        obtain ⟨s, hc, rfl, _⟩ := DataW.trod_string he hf
        have h1 : cs[i]? = some (.string s) := by
          have := congrArg (·[0]?) hc
          simpa [List.getElem?_take, List.getElem?_drop] using this
        have h2 : (xs.map (·.1))[i]? = some (DataW.lit (.string s.data.toList) : DataW H) := by simp [hb]
        rw [hxs] at h2
        simp only [List.getElem?_map, Option.map_eq_some_iff, DataW.lit.injEq, Lit.string.injEq] at h2
        obtain ⟨s', hs', e'⟩ := h2
        have : s' = s := by cases s; cases s'; simp_all
        subst this
        simp [h1, hs']
      · rw [List.getElem?_eq_none (by omega), List.getElem?_eq_none (by simp; omega)]
    · cases h

theorem names_of_laid {W : World} (h : laidMetH Tryz.prog [("loop.example/g01025/impl.accountNames", Rows.laid_loop_example_g01025_impl_accountNames)] W) : Names W := by
  obtain ⟨ps, ⟨g', t', cs, fuel, p, q, hg', ht', hvar, hd, _, _⟩, _⟩ := h
  have hg : Tryz.prog.globalNamed "loop.example/g01025/impl.accountNames" = some 0 := by kernel_rfl
  have hty : (Tryz.prog.globals[0]?).map (·.type) = some 175 := by kernel_rfl
  obtain rfl := Option.some.inj (hg.symm.trans hg')
  obtain rfl := Option.some.inj (hty.symm.trans ht')
  have hc := cells_of_strs (ss := nameL) Tryz.underlying175 Tryz.underlying9 (by kernel_rfl) (by kernel_rfl) hd
  intro k hk
  have h1 := World.var?_cell hg hvar k
  rw [h1]
  have h2 : cs[k]? = (nameL.map fun s => Value.string s)[k]? := by rw [← hc]; simp
  rw [h2]
  have hl : nameL.length = 10 := rfl
  simp [nameB, List.getD, hl, hk]

section
variable {P : Program} {H : Type} {enc : TypeId × Value → H}
theorem post_true_vars {f : Func} {s : ChangeSpec} {tb : TypeId} {W W' : World} {args : Array Value} {ds gs : List (DataW H)} {before : List MemPlace} (hrow : varsRowed P s.vars = true)
    (hW : DataW.Whole enc P f.params.toList s.vars false W args.toList ds gs before) (hres : f.resultTypes = #[tb]) (htb : P.underlying tb = some .bool)
    (hs : s.fn H (ds ++ gs) = { results := [.lit (.bool true)], args := ds, vars := gs }) (hl : laidOutB P = true) (hp : ∀ t ∈ f.params.toList, P.readableRec t = true ∧ t < P.types.size) (hb : Below W.heap.size W W') :
    s.post enc P f false true false false W args (.bool true) W' := by
  have hlt := hW.lt
  obtain ⟨p, q, hA, hV, rfl, hz, hn⟩ := id hW
  refine ⟨ds, gs, p ++ q, [], p, q, hW, ?_, ?_, ?_, hb.frame _, fun h => by cases h⟩
  · simp only [hs, hres]
    exact trodAll_cons_mk (shut_bool htb _) trodAll_mk0
  · simp only [hs]
    exact trodAll_below hl hb hp hA (fun x hx => hlt x (by simp [hx]))
  · simp only [hs]
    exact Below.trodVars hl hb hrow hV
end

set_option maxRecDepth 100000 in
theorem law_liftedD {k : FuncId} {fn : Func} {s : ChangeSpec} {conds : List PathCond} {laid : List (String × DataW Unit)} (os : Os) (started : os.Started) (H : Type) (enc : TypeId × Value → H) (F : Stop.Interp) (tb : TypeId)
    (noInit : Tryz.prog.inits.idxOf? k = none) (hfn : Tryz.prog.funcs[k]? = some fn)
    (witness : ∃ (w : World) (tape : Tape) (i : Input), w.os = os ∧ (w.forCall tape i).Shaped Tryz.prog ∧ i.vars = [] ∧ Input.okWide Tryz.prog (w.forCall tape i) .any w.heap.size k i ∧
      (OpenSpec.ofChange s).preRow enc Tryz.prog fn conds false laid (w.forCall tape i).memory i.args ∧ (Assume.holds {} Tryz.prog (lone (Frame.enter Tryz.prog k i.args .normal) [] (w.forCall tape i))))
    (hrow : varsRowed Tryz.prog s.vars = true) (hres : fn.resultTypes = #[tb]) (htb : Tryz.prog.underlying tb = some .bool) (hp : ∀ t ∈ fn.params.toList, Tryz.prog.readableRec t = true ∧ t < Tryz.prog.types.size)
    (hs : ∀ ds gs : List (DataW H), ds.length = fn.params.size → gs.length = s.vars.length → s.fn H (ds ++ gs) = { results := [.lit (.bool true)], args := ds, vars := gs })
    (walk : ∀ (W : World) (base : Nat) (args : Array Value) (ds : List (DataW H)) (p : List MemPlace), (∀ (j : Nat) t v, fn.params[j]? = some t → args[j]? = some v → Value.okWide Tryz.prog W .any base t v) →
      DataW.TrodAll enc Tryz.prog W 0 (fun _ => true) true fn.params.toList args.toList ds p → laidMetH Tryz.prog laid W → Calls Tryz.prog k args W fun e W' => e = .returned (.bool true) ∧ Below W.heap.size W W') :
    ReturnsInHanded {} Tryz.checked os k .any ((OpenSpec.ofChange s).preRow enc Tryz.prog fn conds false laid) (((OpenSpec.ofChange s).at F).post enc Tryz.prog fn false true false false) := by
  refine returnsInHanded_of_row (C := Tryz.checked) (s := OpenSpec.ofChange s) own_knob started noInit hfn witness ?_
  intro W base args ds gs before hval hW _ _ _ hL _ _
  obtain ⟨p, q, hA, hV, _, _, _⟩ := id hW
  refine (walk W base args ds p hval hA hL).mono fun e W' ⟨he, hb⟩ => ?_
  subst he
  have hlen : ds.length = fn.params.size := by
    have : ∀ {ts : List TypeId} {vs : List Value} {ds : List (DataW H)} {ps : List MemPlace}, DataW.TrodAll enc Tryz.prog W 0 (fun _ => true) true ts vs ds ps → ds.length = ts.length := by
      intro ts
      induction ts with
      | nil => intro vs ds ps h; obtain ⟨_, rfl, _⟩ := trodAll_nil h; rfl
      | cons t ts ih => intro vs ds ps h; obtain ⟨_, _, _, _, _, _, _, rfl, _, _, h2⟩ := trodAll_cons h; simp [ih h2]
    simpa using this hA
  have hgl : gs.length = s.vars.length := by
    have : ∀ {ns : List String} {gs : List (DataW H)} {ps : List MemPlace}, DataW.TrodVars enc Tryz.prog W (fun _ => true) ns gs ps → gs.length = ns.length := by
      intro ns
      induction ns with
      | nil => intro gs ps h; cases gs with
        | nil => rfl
        | cons => exact h.elim
      | cons n ns ih => intro gs ps h; cases gs with
        | nil => exact h.elim
        | cons d ds => obtain ⟨_, _, _, _, _, _, _, _, _, _, h2, _⟩ := h; simp [ih h2]
    exact this hV
  exact ⟨_, rfl, post_true_vars hrow hW hres htb (hs ds gs hlen hgl) laid_out hp hb⟩
end Go.Proofs.YtlbllonpodckgaaGreatDoor
