/- The law on RecoverLedger: the program's and the reference's results are equal, and the arguments are left as they were. No condition but the laid tables. -/
import Derived.Test.YtlbllonpodckgaaGreatDoorRec1
import Derived.Test.YtlbllonpodckgaaGreatDoorRec2
import Derived.Test.YtlbllonpodckgaaGreatDoorStEntry
import Derived.Test.YtlbllonpodckgaaGreatDoorLaw
import Derived.Test.YtlbllonpodckgaaGreatDoorDoorE
import Derived.Test.YtlbllonpodckgaaGreatDoorBase2
namespace Go.Proofs.YtlbllonpodckgaaGreatDoor
open Go.ChangeShapes Go.WideShapes Go.ChangeAt Go.RowKit Go.Deep
namespace fnExactRecoverLedger
theorem recL_len : ∀ (ls : List (List UInt8)) (out : List Entry) (c : Int), out.length ≤ 150 → (recL ls out c).length ≤ 150
  | [], out, c, h => by rw [recL]; exact h
  | l :: ls, out, c, h => by
    rw [recL]
    cases hn : nextO out c l with
    | none => exact h
    | some e =>
      have h1 := (nextO_some hn).1
      exact recL_len ls (out ++ [e]) (chkP c e) (by simp; omega)
theorem recP_len (l : List UInt8) : (recP l).1.length ≤ 150 := by
  unfold recP
  split
  · simp
  · exact recL_len _ [] 0 (by simp)
set_option maxRecDepth 100000 in
set_option maxHeartbeats 4000000 in
theorem walk (s : ByteArray) (w : World) (hE : Env w) (hN : Names w) :
    Calls Tryz.prog 3 #[.string s] w fun e w' => e = .returned (.bool true) ∧ Below w.heap.size w w' := by
  by_cases hs : 1048576 < s.size
  · have hsi : (1048576 : Int) < (s.size : Int) := by omega
    clear hE hN
    go_enter Tryz.func3, Tryz.ntmps3
    go_wp2
    go_ret
    exact ⟨rfl, Below.refl _ _⟩
  have hs' : s.size ≤ 1048576 := by omega
  have hsi : ¬ (1048576 : Int) < (s.size : Int) := by omega
  have HN := Lib.hid hN; clear hN
  have HE := Lib.hid hE; clear hE
  have HI := Lib.hid (fun X (hX : Env X) (hNX : Names X) => impl_RecoverLedger_any s hs' X hX hNX)
  have HS := Lib.hid (fun X => spec_RecoverLedger_any s hs' X)
  have hPL := recP_len s.data.toList
  unfold RecE at HI HS
  generalize recP s.data.toList = P at HI HS hPL
  change Hid _ at HI
  change Hid _ at HS
  have HB0 := Lib.hid (Below.refl w.heap.size w)
  go_enter Tryz.func3, Tryz.ntmps3
  go_wp2_with fail
  refine (HS.out w).mono ?_
  rintro e w1 ⟨AW, nW, cW, rfl, hRW, hb1⟩
  have HRW := Lib.hid hRW
  have HB1 := Lib.hid hb1
  have hz1 : w.heap.size ≤ w1.heap.size := hb1.size
  have hlW : P.1.length = nW := by have h := hRW.len; rwa [entryRows_length] at h
  have hwW := Lib.hid (fun g (hg : AW = some ⟨g, 0, none⟩) => HRW.out.lt hg)
  clear hRW hb1
  go_wp2_with fail
  refine (HI.out w1 (HE.out.past HB1.out) (HN.out.past HB1.out)).mono ?_
  rintro e w2 ⟨AG, nG, cG, rfl, hRG, hb2⟩
  have HRG := Lib.hid hRG
  have HB2 := Lib.hid (HB1.out.trans (hb2.mono HB1.out.size))
  have hz2 : w1.heap.size ≤ w2.heap.size := hb2.size
  have hlG : P.1.length = nG := by have h := hRG.len; rwa [entryRows_length] at h
  obtain rfl : nG = nW := by omega
  have hwG := Lib.hid (fun g (hg : AG = some ⟨g, 0, none⟩) => HRG.out.lt hg)
  replace HRW := Lib.hid (HRW.out.past hb2)
  clear hRG hb2 hlG
  go_wp2_with fail
  refine (eqEntryS_any AG AW nG cG cW P.1 w2 (by omega) hlW HRG.out.rd HRW.out.rd).mono ?_
  rintro e w3 ⟨rfl, hb3⟩
  have HB3 := Lib.hid (HB2.out.trans (hb3.mono HB2.out.size))
  have hz3 : w2.heap.size ≤ w3.heap.size := hb3.size
  replace HRW := Lib.hid (HRW.out.past hb3)
  replace HRG := Lib.hid (HRG.out.past hb3)
  clear hb3
  go_wp2_with fail
  refine (markEntryS_at w1.heap.size AG nG cG 1 _ _ w3 (by omega) (by omega) HRG.out (by omega)).mono ?_
  rintro e w4 ⟨rfl, ht4, hM0⟩
  have HM0 := Lib.hid hM0; clear hM0
  have HB4 := Lib.hid (HB3.out.trans (ht4.below HB3.out.size (fun g hg => by have := hwG.out g hg; omega)))
  have hz4 : w3.heap.size ≤ w4.heap.size := ht4.size
  replace HRW := Lib.hid (ht4.res HRW.out (fun g hg hg' => by have := hwG.out g hg; have := hwW.out g hg'; omega))
  clear ht4
  go_wp2_with fail
  refine (heldEntryS_at AG nG cG 1 _ _ (by omega) (by omega) HM0.out (by omega)).mono ?_
  rintro e w' ⟨rfl, rfl⟩
  go_wp2_with fail
  refine (HI.out w4 (HE.out.past HB4.out) (HN.out.past HB4.out)).mono ?_
  rintro e w5 ⟨AH, nH, cH, rfl, hRH, hb5⟩
  have HRH := Lib.hid hRH
  have HB5 := Lib.hid (HB4.out.trans (hb5.mono HB4.out.size))
  have hlH : P.1.length = nH := by have h := hRH.len; rwa [entryRows_length] at h
  obtain rfl : nH = nG := by omega
  replace HRW := Lib.hid (HRW.out.past hb5)
  replace HM0 := Lib.hid (HM0.out.past hb5)
  clear hRH hb5 hlH
  go_wp2_with fail
  refine (eqEntryS_any AH AW nH cH cW P.1 w5 (by omega) hlW HRH.out.rd HRW.out.rd).mono ?_
  rintro e w6 ⟨rfl, hb6⟩
  have HB6 := Lib.hid (HB5.out.trans (hb6.mono HB5.out.size))
  replace HM0 := Lib.hid (HM0.out.past hb6)
  clear hb6
  go_wp2_with fail
  refine (heldEntryS_at AG nH cG 1 _ _ (by omega) (by omega) HM0.out (by omega)).mono ?_
  rintro e w' ⟨rfl, rfl⟩
  go_wp2
  go_ret
  exact ⟨rfl, HB6.out⟩

/-- the value that a datum of a table lays -/
def valAt : DataW Unit → Value
  | .lit (.int k z) => .int k z
  | .lit (.string b) => .string ⟨b.toArray⟩
  | _ => .nilIface
def valsRow : DataW Unit → List Value
  | .agg ds => ds.map valAt
  | d => [valAt d]
def valsAll : DataW Unit → List Value
  | .agg ds => (ds.map valsRow).flatten
  | _ => []
def layTab (vs : List Value) : Obj → Obj
  | .cells _ t frozen => .cells vs.toArray t frozen
  | o => o
def layErr (g : Nat) : Obj → Obj
  | .cells _ t frozen => .cells #[.iface 231 (.pointer (some ⟨g, 0, none⟩))] t frozen
  | o => o
def rangeS : ByteArray := ⟨#[118, 97, 108, 117, 101, 32, 111, 117, 116, 32, 111, 102, 32, 114, 97, 110, 103, 101]⟩
def synS : ByteArray := ⟨#[105, 110, 118, 97, 108, 105, 100, 32, 115, 121, 110, 116, 97, 120]⟩
noncomputable def low : Nat := (World.holding Tryz.prog default ⟨#[], #[], []⟩).heap.size
noncomputable def laidWorld (os : Os) : World :=
  { World.holding Tryz.prog os ⟨#[.cells #[.string rangeS] 233, .cells #[.string synS] 233], #[], []⟩ with heap := (((((((((World.holding Tryz.prog os ⟨#[.cells #[.string rangeS] 233, .cells #[.string synS] 233], #[], []⟩).heap.modify 9 (layTab (valsAll Rows.laid_math_bits_deBruijn32tab))).modify 10 (layTab (valsAll Rows.laid_math_bits_deBruijn64tab))).modify 6 (layTab (valsAll Rows.laid_internal_strconv_uint64pow10))).modify 8 (layTab (valsAll Rows.laid_unicode_utf8_acceptRanges))).modify 2 (layErr low)).modify 1 (layErr (low + 1))).modify 0 (layTab (valsAll Rows.laid_loop_example_g01025_impl_accountNames))).modify 7 (layTab (valsAll Rows.laid_unicode_utf8_first))) }
theorem laid_met (os : Os) : laidMet Tryz.prog Rows.fnExactRecoverLedgerRow.laid ((laidWorld os).forCall (fun _ _ => 0) ⟨#[], #[.string ⟨#[]⟩], []⟩).memory :=
  laidMet_of_run' 8 (by kernel_rfl) (by kernel_rfl)
theorem reads (os : Os) {H : Type} (enc : TypeId × Value → H) : ∃ places, DataW.whole enc Tryz.prog ((laidWorld os).forCall (fun _ _ => 0) ⟨#[], #[.string ⟨#[]⟩], []⟩).memory Tryz.f3.params.toList Rows.fnExactRecoverLedgerSpec.vars false #[.string ⟨#[]⟩].toList 8 = some ([.lit (.string [])], [Rows.laid_loop_example_g01025_impl_accountNames], places) :=
  ⟨MemPlace.row ⟨0, 0, none⟩ 10, by kernel_rfl⟩

set_option maxRecDepth 100000 in
theorem lifted (os : Os) (started : os.Started) (H : Type) (enc : TypeId × Value → H) (F : Stop.Interp) :
    ReturnsInHanded {} Tryz.checked os 3 .any ((OpenSpec.ofChange Rows.fnExactRecoverLedgerSpec).preRow enc Tryz.prog Tryz.f3 Rows.fnExactRecoverLedgerRow.domain false Rows.fnExactRecoverLedgerRow.laid) (((OpenSpec.ofChange Rows.fnExactRecoverLedgerSpec).at F).post enc Tryz.prog Tryz.f3 false true false false) := by
  obtain ⟨places, hx⟩ := reads os enc
  refine law_liftedDS os started H enc F 4 (by kernel_rfl) Tryz.func3
    (witness_row_at (enc := enc) (C := Tryz.checked) false (laidWorld os) #[.string ⟨#[]⟩] rfl (by kernel_rfl) (by kernel_rfl) (by kernel_rfl)
      (OpenSpec.preRow_of_cond 8 hx (by kernel_rfl) (fun k hk => by cases hk) (by kernel_rfl) (laid_met os))) (by kernel_rfl) rfl Tryz.underlying4
    (by rw [Tryz.params3]; simp only [List.forall_mem_cons]; exact ⟨⟨by kernel_rfl, of_decide_eq_true (by kernel_rfl)⟩, by simp⟩) (fun ds gs hl hg => by
      match ds, hl, gs, hg with
      | [d0], _, [g], _ => rfl) ?_
  intro W base args ds p hval hA hL0 hsh
  have hL : laidMet Tryz.prog [("math/bits.deBruijn32tab", Rows.laid_math_bits_deBruijn32tab), ("math/bits.deBruijn64tab", Rows.laid_math_bits_deBruijn64tab), ("internal/strconv.uint64pow10", Rows.laid_internal_strconv_uint64pow10), ("unicode/utf8.acceptRanges", Rows.laid_unicode_utf8_acceptRanges), ("strconv.ErrRange", Rows.laid_strconv_ErrRange), ("strconv.ErrSyntax", Rows.laid_strconv_ErrSyntax), ("loop.example/g01025/impl.accountNames", Rows.laid_loop_example_g01025_impl_accountNames), ("unicode/utf8.first", Rows.laid_unicode_utf8_first)] W := hL0
  have h2 := hL.tail.tail
  have h4 := h2.tail.tail
  have h5 := h4.tail
  obtain ⟨_, hv2, _⟩ := h2
  have hE : Env W := ⟨tab_of_vars hv2, syn_of h5, rng_of h4, mx_of hsh⟩
  have h6 := h5.tail
  obtain ⟨_, hv6, _⟩ := h6
  have hN : Names W := names_of_vars hv6
  rw [Tryz.params3] at hA hval
  obtain ⟨v0, vs0, d0, ds0, p0, q0, hargs, rfl, rfl, h0, r0⟩ := trodAll_cons hA
  obtain ⟨rfl, rfl, rfl⟩ := trodAll_nil r0
  obtain rfl : args = #[v0] := by cases args; simp_all
  obtain ⟨s, rfl⟩ := okWide_string Tryz.underlying9 (hval 0 9 v0 rfl rfl)
  exact walk s W hE hN
theorem said : Rows.FnExactRecoverLedgerSaid :=
  OpenClaim.holds_of_cond 3 Tryz.f3 rfl rfl rfl rfl rfl rfl rfl ⟨rfl, rfl, rfl, rfl, rfl⟩ rfl rfl rfl rfl rfl (by kernel_rfl) Tryz.func3 (by kernel_rfl)
    (of_decide_eq_true (by kernel_rfl)) (by unfold Func.isWrapper; first | (rw [if_pos (by decide +kernel)]; kernel_rfl) | (rw [if_neg (by decide +kernel)]; exact ⟨rfl, rfl⟩))
    (fun os started H enc _ F => by rw [OpenClaim.pre_eq_preRow]; exact lifted os started H enc F)
theorem plain (f : FuncId) (fn : Func) (hf : Tryz.pinned.checked.prog.funcNamed "loop.example/g01025/laws.FnExactRecoverLedger" = some f) (hfn : Tryz.pinned.checked.prog.funcs[f]? = some fn) :
    true = Tryz.pinned.checked.prog.looks [] ∧ ∀ (j : Nat) t, fn.params[j]? = some t → Tryz.pinned.checked.prog.wantsStandIn t = false := by
  obtain rfl : f = 3 := Option.some.inj ((show Tryz.prog.funcNamed "loop.example/g01025/laws.FnExactRecoverLedger" = some 3 by kernel_rfl).symm.trans hf) |>.symm
  obtain rfl : fn = Tryz.f3 := (Option.some.inj (Tryz.func3.symm.trans hfn)).symm
  refine ⟨by kernel_rfl, fun j t ht => ?_⟩
  rw [Tryz.params3] at ht
  have hm : t ∈ [9] := by simpa using Array.mem_of_getElem? ht
  exact (show ∀ t ∈ [9], Tryz.prog.wantsStandIn t = false by simp only [List.forall_mem_cons]; exact ⟨by kernel_rfl, by simp⟩) t hm
theorem proved : Rows.FnExactRecoverLedgerCardSaid :=
  Claim7.holds_tied_plain_at .later [] _ _ _ _ said (fun _ h => by cases h) (by kernel_rfl) (fun _ h => by cases h) fnExactRecoverLedger_row_tie rfl ⟨rfl, rfl⟩ (by kernel_rfl) rfl plain (by kernel_rfl)
end fnExactRecoverLedger
end Go.Proofs.YtlbllonpodckgaaGreatDoor
