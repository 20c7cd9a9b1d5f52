/- The law on journals: a ledger is recovered from its journal, and complete lines ahead of a cut are recovered. No condition but the laid tables. -/
import Derived.Test.YtlbllonpodckgaaGreatDoorDrawJ
import Derived.Test.YtlbllonpodckgaaGreatDoorHeld
import Derived.Test.YtlbllonpodckgaaGreatDoorJrnP
import Derived.Test.YtlbllonpodckgaaGreatDoorRec1
import Derived.Test.YtlbllonpodckgaaGreatDoorRec2
import Derived.Test.YtlbllonpodckgaaGreatDoorJour3
import Derived.Test.YtlbllonpodckgaaGreatDoorJour4
import Derived.Test.YtlbllonpodckgaaGreatDoorLikesE
import Derived.Test.YtlbllonpodckgaaGreatDoorJrnL
import Derived.Test.YtlbllonpodckgaaGreatDoorDoorE
import Derived.Test.YtlbllonpodckgaaGreatDoorLaw
import Derived.Test.YtlbllonpodckgaaGreatDoorBase2
namespace Go.Proofs.YtlbllonpodckgaaGreatDoor
open Go.ChangeShapes Go.WideShapes Go.ChangeAt Go.RowKit Go.Deep
namespace fnJournals
set_option maxRecDepth 100000 in
set_option maxHeartbeats 8000000 in
theorem walk (K : Code) (hlen : K.bs.length = K.n) (hbyte : ∀ x ∈ K.bs, 0 ≤ x ∧ x ≤ 255) (hmax : K.n ≤ 9223372036854775807) (w : World) (hX : Rd w w.heap.size K.A 1 (byteRows K.bs)) (hEnv : Env w) (hNam : Names w) :
    Calls Tryz.prog 4 #[.slice K.A K.n K.c] w fun e w' => e = .returned (.bool true) ∧ Below w.heap.size w w' := by
  by_cases hbig : 4096 < K.n
  · have hd : decide (4096 < K.n) = true := by simpa using hbig
    clear hX hbyte hlen hEnv hNam
    go_enter Tryz.func4, Tryz.ntmps4
    go_wp2_with (go_at_call 13; refine (laws_big_any K.A K.n K.c _ (by omega)).mono ?_; rw [hd]; rintro e w' ⟨rfl, rfl⟩)
    go_ret
    exact ⟨rfl, Below.refl _ _⟩
  have hd : decide (4096 < K.n) = false := by simpa using hbig
  have hK : K.Ok := ⟨hlen, by omega, hbyte⟩
  have HH := Lib.hid ((Held.nil w).snoc hX)
  have HB := Lib.hid (Below.refl w.heap.size w)
  clear hX hbyte hlen hbig
  go_enter Tryz.func4, Tryz.ntmps4
  go_wp2_with (go_at_call 13; refine (laws_big_any K.A K.n K.c _ (by omega)).mono ?_; rw [hd]; rintro e w' ⟨rfl, rfl⟩)
  have HEnv := Lib.hid hEnv; have HNam := Lib.hid hNam; clear hEnv hNam
  refine (spec_DrawJournalText_any K hK _ (HH.out.get 0 rfl)).mono ?_
  rintro e w1 ⟨A0, n0, c0, rfl, hE, hn0, hb⟩
  have hcp0 := entries_cap hE
  obtain ⟨xs0, hl0, hR, hf0⟩ := entries_rd hE
  replace HB := Lib.hid (below_all HB.out hb)
  replace HH := Lib.hid ((HH.out.past hb).snoc hR)
  clear hb
  clear hE hR
  go_wp2_with fail
  refine (impl_JournalText_any A0 n0 c0 xs0 _ hl0 (by omega) (HH.out.get 1 rfl) hf0 (HEnv.out.past HB.out).tab (HNam.out.past HB.out)).mono ?_
  rintro e w2 ⟨rfl, hb⟩
  replace HB := Lib.hid (below_all HB.out hb)
  replace HH := Lib.hid (HH.out.past hb)
  clear hb
  go_wp2_with fail
  refine (spec_JournalText_any A0 n0 c0 xs0 _ hl0 (by omega) (HH.out.get 1 rfl) hf0).mono ?_
  rintro e w3 ⟨rfl, hb⟩
  replace HB := Lib.hid (below_all HB.out hb)
  replace HH := Lib.hid (HH.out.past hb)
  clear hb
  go_wp2_with fail
  refine (spec_DrawRecoverLedger_any K hK _ (HH.out.get 0 rfl)).mono ?_
  rintro e w4 ⟨r, rfl, hr, hb⟩
  replace HB := Lib.hid (below_all HB.out hb)
  replace HH := Lib.hid (HH.out.past hb)
  clear hb
  go_wp2_with fail
  refine (impl_RecoverLedger_any r (by omega) _ (HEnv.out.past HB.out) (HNam.out.past HB.out)).mono ?_
  rintro e w5 ⟨A1, n1, c1, rfl, hR, hb⟩
  have hl1 : (recP r.data.toList).1.length = n1 := by have h := hR.len; rwa [entryRows_length] at h
  replace HB := Lib.hid (below_all HB.out hb)
  replace HH := Lib.hid ((HH.out.past hb).snoc hR.rd)
  clear hb
  clear hR
  go_wp2_with fail
  refine (spec_RecoverLedger_any r (by omega) _).mono ?_
  rintro e w6 ⟨A2, n2, c2, rfl, hR, hb⟩
  have hl2 : (recP r.data.toList).1.length = n2 := by have h := hR.len; rwa [entryRows_length] at h
  replace HB := Lib.hid (below_all HB.out hb)
  replace HH := Lib.hid ((HH.out.past hb).snoc hR.rd)
  clear hb
  clear hR
  obtain rfl : n2 = n1 := by omega
  clear hl2
  have hpl := recP_len r.data.toList
  generalize recP r.data.toList = P at HH hl1 hpl ⊢
  change Hid _ at HH
  go_wp2_with fail
  refine (likeEntries9_any A1 n2 c1 A2 c2 P.1 _ hl1 (by omega) (HH.out.get 2 rfl) (HH.out.get 3 rfl)).mono ?_
  rintro e wL ⟨rfl, hb⟩
  replace HB := Lib.hid (below_all HB.out hb); replace HH := Lib.hid (HH.out.past hb); clear hb
  cases hg : ledgerB xs0
  · rw [jourP_no hg]
    go_wp2
    go_ret
    exact ⟨rfl, HB.out⟩
  rw [jourP_yes hg]
  have hlen0 := ledger_len hg
  have HG := Lib.hid hg; clear hg
  by_cases hbig2 : 12000 < (jourS xs0).2.length
  · have hbi : (12000 : Int) < ((S (jourS xs0).2).size : Int) := by rw [S_size]; omega
    go_wp2
    go_ret
    exact ⟨rfl, HB.out⟩
  have hbi : ¬ (12000 : Int) < ((S (jourS xs0).2).size : Int) := by rw [S_size]; omega
  have HALL := Lib.hid (rec_all HG.out (by omega))
  have HCUT := Lib.hid (fun k => rec_cut HG.out k (by rw [List.length_take]; omega))
  have HCNT := Lib.hid (fun k => (show ((jourS xs0).2.take k).count 10 ≤ n0 from by
    rw [← hl0, ← jour_count xs0 (fun x hx => ledger_entry HG.out hx)]
    exact List.Sublist.count_le 10 (List.take_sublist k _)))
  obtain ⟨T, hT⟩ : ∃ T, (jourS xs0).2 = T := ⟨_, rfl⟩
  rw [hT] at HALL HCUT HCNT hbig2 hbi ⊢
  clear hT
  have hTl : T.length ≤ 12000 := by omega
  obtain ⟨st, hst⟩ : ∃ st, S T = st := ⟨_, rfl⟩
  rw [hst] at hbi ⊢
  have hsl : st.data.toList = T := by rw [← hst, S_list]
  have hsz : st.size = T.length := by rw [← hst, S_size]
  have HSL := Lib.hid hsl
  have HST := Lib.hid hst
  have hts : st.size ≤ 12000 := by omega
  have HSZ := Lib.hid hsz
  clear hst hsl hsz hbig2 hTl
  go_wp2_with fail
  refine (laws_roll_any K hK 2201 _ (HH.out.get 0 rfl)).mono ?_
  rintro e wR ⟨g, rfl, hgR, ⟨dh, hD⟩, hbR⟩
  have HXK := Lib.hid (((HH.out.get 0 rfl).below hbR).more hgR)
  have HD := Lib.hid hD
  have HBR := Lib.hid hbR
  clear hD hbR
  go_wp2_with fail
  refine (laws_below_any K hK g dh ((st.size : Int) + 1) _ HXK.out HD.out (by omega) (by omega)).mono ?_
  rintro e wD ⟨x, rfl, ⟨hx0, hx1⟩, hbD⟩
  obtain ⟨cut, rfl⟩ := Int.eq_ofNat_of_zero_le hx0
  have hb := HBR.out.trans (hbD.mono hgR)
  replace HB := Lib.hid (below_all HB.out hb); replace HH := Lib.hid (HH.out.past hb)
  clear hb hbD HXK HD HBR hx0
  have hcut : cut ≤ st.size := by omega
  go_wp2
  go_loopw [14, 15] (fun l i wr => ∃ k : Nat, k ≤ cut ∧ i = .int .i64 k ∧ l = .int .i64 (((T.take k).count 10 : Nat) : Int) ∧ wr = wD) (fun _ i _ => cut - (intOf i).toNat)
  case atStart => exact ⟨0, by omega, rfl, by simp, rfl⟩
  case round =>
    obtain ⟨k, hk, rfl, rfl, rfl⟩ := hrel
    by_cases hlt : k < cut
    · have hks : k < st.size := by omega
      have hki : (k : Int) < (cut : Int) := by omega
      have hkT : k < T.length := by rw [← HSZ.out]; exact hks
      have hge : T[k] = st[k] := by
        have h1 : st.data.toList[k]'(by rw [HSL.out]; exact hkT) = T[k] := by simp only [HSL.out]
        rw [← h1]; rfl
      have hcl : (T.take k).count 10 ≤ 12000 := by
        have h1 := List.count_le_length (a := (10 : UInt8)) (l := T.take k)
        have h2 := HSZ.out
        rw [List.length_take] at h1
        omega
      have hst1 := count_step hkT
      rw [hge] at hst1
      have HS1 := Lib.hid hst1
      have HKT := Lib.hid hkT
      clear hst1 hge hkT
      generalize (T.take k).count 10 = cnt at hcl HS1 ⊢
      change Hid _ at HS1
      by_cases h10 : st[k].toNat = 10
      · have h10i : ((st[k].toNat : Int) == 10) = true := by simp [h10]
        have HS2 := Lib.hid (HS1.out.1 h10)
        go_wp2
        go_roundw
        case rel => exact ⟨k + 1, by omega, by go_num, by rw [HS2.out]; go_num, by trivial⟩
        case measure => simp [intOf]; omega
      · have h10i : ((st[k].toNat : Int) == 10) = false := by simp; omega
        have HS2 := Lib.hid (HS1.out.2 h10)
        go_wp2
        go_roundw
        case rel => exact ⟨k + 1, by omega, by go_num, by rw [HS2.out], by trivial⟩
        case measure => simp [intOf]; omega
    have hkn : k = cut := by omega
    subst hkn
    have HCU := Lib.hid (HCUT.out k)
    have hcn := HCNT.out k
    generalize (T.take k).count 10 = cnt at hcn HCU ⊢
    change Hid _ at HCU
    have HI1 := Lib.hid (fun X (hX : Env X) (hNX : Names X) => impl_RecoverLedger_any st (by omega) X hX hNX)
    have HI2 := Lib.hid (fun X (hX : Env X) (hNX : Names X) => impl_RecoverLedger_any (st.extract 0 k) (by rw [ByteArray.size_extract]; omega) X hX hNX)
    have he2 : (st.extract 0 k).data.toList = T.take k := by rw [extract_S, S_list, HSL.out]; simp
    unfold RecE at HI1 HI2
    rw [HSL.out, HALL.out] at HI1
    rw [he2, HCU.out] at HI2
    clear he2
    go_wp2_with fail
    refine (HI1.out _ (HEnv.out.past HB.out) (HNam.out.past HB.out)).mono ?_
    rintro e wA ⟨A5, n5, c5, rfl, hR, hb⟩
    replace HB := Lib.hid (below_all HB.out hb)
    have hl5 : xs0.length = n5 := by have h := hR.len; rwa [entryRows_length] at h
    replace HH := Lib.hid ((HH.out.past hb).snoc hR.rd)
    clear hb hR
    obtain rfl : n5 = n0 := by omega
    go_wp2_with fail
    refine (HI2.out _ (HEnv.out.past HB.out) (HNam.out.past HB.out)).mono ?_
    rintro e wB ⟨A6, n6, c6, rfl, hR, hb⟩
    replace HB := Lib.hid (below_all HB.out hb)
    have hl6 : (xs0.take cnt).length = n6 := by have h := hR.len; rwa [entryRows_length] at h
    replace HH := Lib.hid ((HH.out.past hb).snoc hR.rd)
    clear hb hR
    obtain rfl : n6 = cnt := by rw [List.length_take] at hl6; omega
    go_wp2_with fail
    refine (likeEntries9_any A5 n5 c5 A0 c0 xs0 _ hl0 (by omega) (HH.out.get 4 rfl) (HH.out.get 1 rfl)).mono ?_
    rintro e wE ⟨rfl, hb⟩
    replace HB := Lib.hid (below_all HB.out hb); replace HH := Lib.hid (HH.out.past hb); clear hb
    have hcc : n6 ≤ c0 := by omega
    have HTK := Lib.hid (show Rd wE wE.heap.size A0 4 (entryRows (xs0.take n6)) from by
      have h := (HH.out.get 1 rfl).take n6
      rwa [show (entryRows xs0).take n6 = entryRows (xs0.take n6) by simp [entryRows]] at h)
    have hci : (n6 : Int) ≤ (c0 : Int) := by omega
    rcases A0 with _ | ad
    all_goals
      go_wp2_with fail
      refine (likeEntries9_any A6 n6 c6 _ _ (xs0.take n6) _ hl6 (by omega) (HH.out.get 5 rfl) HTK.out).mono ?_
      rintro e wF ⟨rfl, hb⟩
      replace HB := Lib.hid (below_all HB.out hb); clear hb
      go_wp2
      go_ret
      exact ⟨rfl, HB.out⟩

/-- the value that a datum of a table lays -/
def valAt : DataW Unit → Value
  | .lit (.int k z) => .int k z
  | .lit (.string b) => .string ⟨b.toArray⟩
  | _ => .nilIface
def valsRow : DataW Unit → List Value
  | .agg ds => ds.map valAt
  | d => [valAt d]
def valsAll : DataW Unit → List Value
  | .agg ds => (ds.map valsRow).flatten
  | _ => []
def layTab (vs : List Value) : Obj → Obj
  | .cells _ t frozen => .cells vs.toArray t frozen
  | o => o
def layErr (g : Nat) : Obj → Obj
  | .cells _ t frozen => .cells #[.iface 231 (.pointer (some ⟨g, 0, none⟩))] t frozen
  | o => o
def rangeS : ByteArray := ⟨#[118, 97, 108, 117, 101, 32, 111, 117, 116, 32, 111, 102, 32, 114, 97, 110, 103, 101]⟩
def synS : ByteArray := ⟨#[105, 110, 118, 97, 108, 105, 100, 32, 115, 121, 110, 116, 97, 120]⟩
noncomputable def low : Nat := (World.holding Tryz.prog default ⟨#[], #[], []⟩).heap.size
noncomputable def laidWorld (os : Os) : World :=
  { World.holding Tryz.prog os ⟨#[.cells #[.string rangeS] 233, .cells #[.string synS] 233], #[], []⟩ with heap := (((((((((World.holding Tryz.prog os ⟨#[.cells #[.string rangeS] 233, .cells #[.string synS] 233], #[], []⟩).heap.modify 9 (layTab (valsAll Rows.laid_math_bits_deBruijn32tab))).modify 10 (layTab (valsAll Rows.laid_math_bits_deBruijn64tab))).modify 6 (layTab (valsAll Rows.laid_internal_strconv_uint64pow10))).modify 8 (layTab (valsAll Rows.laid_unicode_utf8_acceptRanges))).modify 2 (layErr low)).modify 1 (layErr (low + 1))).modify 0 (layTab (valsAll Rows.laid_loop_example_g01025_impl_accountNames))).modify 7 (layTab (valsAll Rows.laid_unicode_utf8_first))) }
theorem laid_met (os : Os) : laidMet Tryz.prog Rows.fnJournalsRow.laid ((laidWorld os).forCall (fun _ _ => 0) ⟨#[], #[.slice none 0 0], []⟩).memory :=
  laidMet_of_run' 8 (by kernel_rfl) (by kernel_rfl)
theorem reads (os : Os) {H : Type} (enc : TypeId × Value → H) : ∃ places, DataW.whole enc Tryz.prog ((laidWorld os).forCall (fun _ _ => 0) ⟨#[], #[.slice none 0 0], []⟩).memory Tryz.f4.params.toList Rows.fnJournalsSpec.vars false #[.slice none 0 0].toList 8 = some ([.nil], [Rows.laid_loop_example_g01025_impl_accountNames], places) :=
  ⟨MemPlace.row ⟨0, 0, none⟩ 10, by kernel_rfl⟩

set_option maxRecDepth 100000 in
theorem lifted (os : Os) (started : os.Started) (H : Type) (enc : TypeId × Value → H) (F : Stop.Interp) :
    ReturnsInHanded {} Tryz.checked os 4 .any ((OpenSpec.ofChange Rows.fnJournalsSpec).preRow enc Tryz.prog Tryz.f4 Rows.fnJournalsRow.domain false Rows.fnJournalsRow.laid) (((OpenSpec.ofChange Rows.fnJournalsSpec).at F).post enc Tryz.prog Tryz.f4 false true false false) := by
  obtain ⟨places, hx⟩ := reads os enc
  refine law_liftedDS os started H enc F 4 (by kernel_rfl) Tryz.func4
    (witness_row_at (enc := enc) (C := Tryz.checked) false (laidWorld os) #[.slice none 0 0] rfl (by kernel_rfl) (by kernel_rfl) (by kernel_rfl)
      (OpenSpec.preRow_of_cond 8 hx (by kernel_rfl) (fun k hk => by cases hk) (by kernel_rfl) (laid_met os))) (by kernel_rfl) rfl Tryz.underlying4
    (by rw [Tryz.params4]; simp only [List.forall_mem_cons]; exact ⟨⟨by kernel_rfl, of_decide_eq_true (by kernel_rfl)⟩, by simp⟩) (fun ds gs hl hg => by
      match ds, hl, gs, hg with
      | [d0], _, [g], _ => rfl) ?_
  intro W base args ds p hval hA hL0 hsh
  have hL : laidMet Tryz.prog [("math/bits.deBruijn32tab", Rows.laid_math_bits_deBruijn32tab), ("math/bits.deBruijn64tab", Rows.laid_math_bits_deBruijn64tab), ("internal/strconv.uint64pow10", Rows.laid_internal_strconv_uint64pow10), ("unicode/utf8.acceptRanges", Rows.laid_unicode_utf8_acceptRanges), ("strconv.ErrRange", Rows.laid_strconv_ErrRange), ("strconv.ErrSyntax", Rows.laid_strconv_ErrSyntax), ("loop.example/g01025/impl.accountNames", Rows.laid_loop_example_g01025_impl_accountNames), ("unicode/utf8.first", Rows.laid_unicode_utf8_first)] W := hL0
  have h2 := hL.tail.tail
  have h4 := h2.tail.tail
  have h5 := h4.tail
  obtain ⟨_, hv2, _⟩ := h2
  have hE : Env W := ⟨tab_of_vars hv2, syn_of h5, rng_of h4, mx_of hsh⟩
  have h6 := h5.tail
  obtain ⟨_, hv6, _⟩ := h6
  have hN : Names W := names_of_vars hv6
  rw [Tryz.params4] at hA hval
  obtain ⟨v0, vs0, d0, ds0, p0, q0, hargs, rfl, rfl, h0, r0⟩ := trodAll_cons hA
  obtain ⟨rfl, rfl, rfl⟩ := trodAll_nil r0
  obtain rfl : args = #[v0] := by cases args; simp_all
  obtain ⟨A0, n0, c0, rfl⟩ := okWide_slice Tryz.underlying28 (hval 0 28 v0 rfl rfl)
  obtain ⟨fu0, ho0⟩ := h0
  obtain ⟨bs, hbl, hby, hRd, hnm⟩ := open_code Tryz.underlying28 Tryz.underlying5 (by kernel_rfl) ho0
  exact walk ⟨A0, n0, c0, bs⟩ hbl hby hnm W hRd hE hN
theorem said : Rows.FnJournalsSaid :=
  OpenClaim.holds_of_cond 4 Tryz.f4 rfl rfl rfl rfl rfl rfl rfl ⟨rfl, rfl, rfl, rfl, rfl⟩ rfl rfl rfl rfl rfl (by kernel_rfl) Tryz.func4 (by kernel_rfl)
    (of_decide_eq_true (by kernel_rfl)) (by unfold Func.isWrapper; first | (rw [if_pos (by decide +kernel)]; kernel_rfl) | (rw [if_neg (by decide +kernel)]; exact ⟨rfl, rfl⟩))
    (fun os started H enc _ F => by rw [OpenClaim.pre_eq_preRow]; exact lifted os started H enc F)
theorem plain (f : FuncId) (fn : Func) (hf : Tryz.pinned.checked.prog.funcNamed "loop.example/g01025/laws.FnJournals" = some f) (hfn : Tryz.pinned.checked.prog.funcs[f]? = some fn) :
    true = Tryz.pinned.checked.prog.looks [] ∧ ∀ (j : Nat) t, fn.params[j]? = some t → Tryz.pinned.checked.prog.wantsStandIn t = false := by
  obtain rfl : f = 4 := Option.some.inj ((show Tryz.prog.funcNamed "loop.example/g01025/laws.FnJournals" = some 4 by kernel_rfl).symm.trans hf) |>.symm
  obtain rfl : fn = Tryz.f4 := (Option.some.inj (Tryz.func4.symm.trans hfn)).symm
  refine ⟨by kernel_rfl, fun j t ht => ?_⟩
  rw [Tryz.params4] at ht
  have hm : t ∈ [28] := by simpa using Array.mem_of_getElem? ht
  exact (show ∀ t ∈ [28], Tryz.prog.wantsStandIn t = false by simp only [List.forall_mem_cons]; exact ⟨by kernel_rfl, by simp⟩) t hm
theorem proved : Rows.FnJournalsCardSaid :=
  Claim7.holds_tied_plain_at .later [] _ _ _ _ said (fun _ h => by cases h) (by kernel_rfl) (fun _ h => by cases h) fnJournals_row_tie rfl ⟨rfl, rfl⟩ (by kernel_rfl) rfl plain (by kernel_rfl)
end fnJournals
end Go.Proofs.YtlbllonpodckgaaGreatDoor
