/- The law on turnovers: a balance is the difference of both turnovers; the names of the accounts agree. No condition but the table of the names. -/
import Derived.Test.YtoabhnobgdjgkaaDoorDrawL2
import Derived.Test.YtoabhnobgdjgkaaDoorDrawLaw
import Derived.Test.YtoabhnobgdjgkaaDoorHeld
import Derived.Test.YtoabhnobgdjgkaaDoorTurnQ
import Derived.Test.YtoabhnobgdjgkaaDoorLedg2
import Derived.Test.YtoabhnobgdjgkaaDoorNames
import Derived.Test.YtoabhnobgdjgkaaDoorLaw
import Derived.Test.YtoabhnobgdjgkaaDoorBase2
namespace Go.Proofs.YtoabhnobgdjgkaaDoor
open Go.ChangeShapes Go.WideShapes Go.ChangeAt Go.RowKit Go.Deep
namespace fnTurnovers
set_option maxRecDepth 100000 in
set_option maxHeartbeats 8000000 in
theorem walk (K : Code) (hlen : K.bs.length = K.n) (hbyte : ∀ x ∈ K.bs, 0 ≤ x ∧ x ≤ 255) (hmax : K.n ≤ 9223372036854775807) (w : World) (hX : Rd w w.heap.size K.A 1 (byteRows K.bs)) (hN : Names w) :
    Calls Tryd.prog 3 #[.slice K.A K.n K.c] w fun e w' => e = .returned (.bool true) ∧ Below w.heap.size w w' := by
  by_cases hbig : 4096 < K.n
  · have hd : decide (4096 < K.n) = true := by simpa using hbig
    clear hX hbyte hlen hN
    go_enter Tryd.func3, Tryd.ntmps3
    go_wp2_with (go_at_call 5; refine (laws_big_any K.A K.n K.c _ (by omega)).mono ?_; rw [hd]; rintro e w' ⟨rfl, rfl⟩)
    go_ret
    exact ⟨rfl, Below.refl _ _⟩
  have hd : decide (4096 < K.n) = false := by simpa using hbig
  have hK : K.Ok := ⟨hlen, by omega, hbyte⟩
  have HH := Lib.hid ((Held.nil w).snoc hX)
  have HB := Lib.hid (Below.refl w.heap.size w)
  clear hX hbyte hlen hbig
  go_enter Tryd.func3, Tryd.ntmps3
  go_wp2_with (go_at_call 5; refine (laws_big_any K.A K.n K.c _ (by omega)).mono ?_; rw [hd]; rintro e w' ⟨rfl, rfl⟩)
  have HN := Lib.hid hN; have HNL := Lib.hid hN.lt; clear hN
  refine (spec_DrawTurnoverOf_any K hK _ (HH.out.get 0 rfl)).mono ?_
  rintro e w1 ⟨A0, n0, c0, a0, f0, t0, rfl, hE, hn0, hi0, hb⟩
  obtain ⟨xs0, hl0, hR, hf0⟩ := entries_rd hE
  replace HB := Lib.hid (below_all HB.out hb)
  replace HH := Lib.hid ((HH.out.past hb).snoc hR)
  clear hb
  clear hE hR
  go_wp2_with fail
  refine (impl_TurnoverOf_any A0 n0 c0 xs0 a0 f0 t0 _ hl0 (by omega) (HH.out.get 1 rfl) hf0 hi0.1 hi0.2.1 hi0.2.2).mono ?_
  rintro e w2 ⟨rfl, hb⟩
  replace HB := Lib.hid (below_all HB.out hb)
  replace HH := Lib.hid (HH.out.past hb)
  clear hb
  go_wp2_with fail
  refine (spec_TurnoverOf_any A0 n0 c0 xs0 a0 f0 t0 _ hl0 (by omega) (HH.out.get 1 rfl) hf0 hi0.1 hi0.2.1 hi0.2.2).mono ?_
  rintro e w3 ⟨rfl, hb⟩
  replace HB := Lib.hid (below_all HB.out hb)
  replace HH := Lib.hid (HH.out.past hb)
  clear hb
  go_wp2_with fail
  refine (spec_DrawAccountName_any K hK _ (HH.out.get 0 rfl)).mono ?_
  rintro e w4 ⟨q0, rfl, hq0, hb⟩
  replace HB := Lib.hid (below_all HB.out hb)
  replace HH := Lib.hid (HH.out.past hb)
  clear hb
  cases hbz : ((turnoverP xs0 a0 f0 t0).2.2 == 0)
  · have hbn : ((turnoverP xs0 a0 f0 t0).2.2 != 0) = true := by simpa [bne] using hbz
    go_wp2_with (first | (go_at_call 10; refine (impl_AccountName_any q0 _ (HN.out.below HB.out HNL.out)).mono ?_; rintro e w' ⟨rfl, rfl⟩) | (go_at_call 11; refine (spec_AccountName_any q0 _).mono ?_; rintro e w9 ⟨rfl, hb⟩; replace HB := Lib.hid (below_all HB.out hb); replace HH := Lib.hid (HH.out.past hb); clear hb))
    go_ret
    exact ⟨rfl, HB.out⟩
  obtain ⟨hL, hA, ⟨f1, f2⟩, ⟨t1, t2⟩, hT⟩ := turn_good (show (turnoverP xs0 a0 f0 t0).2.2 = 0 by simpa using hbz)
  rw [hT]
  clear hbz
  by_cases h1 : t0 < f0
  · have hd1 : decide (t0 < f0) = true := by simpa using h1
    go_wp2_with (first | (go_at_call 10; refine (impl_AccountName_any q0 _ (HN.out.below HB.out HNL.out)).mono ?_; rintro e w' ⟨rfl, rfl⟩) | (go_at_call 11; refine (spec_AccountName_any q0 _).mono ?_; rintro e w9 ⟨rfl, hb⟩; replace HB := Lib.hid (below_all HB.out hb); replace HH := Lib.hid (HH.out.past hb); clear hb))
    go_ret
    exact ⟨rfl, HB.out⟩
  have hd1 : decide (t0 < f0) = false := by simpa using h1
  by_cases h2 : f0 = 0
  · have hd2 : (f0 == 0) = true := by simpa using h2
    clear h2
    go_wp2_with (first | (go_at_call 10; refine (impl_AccountName_any q0 _ (HN.out.below HB.out HNL.out)).mono ?_; rintro e w' ⟨rfl, rfl⟩) | (go_at_call 11; refine (spec_AccountName_any q0 _).mono ?_; rintro e w9 ⟨rfl, hb⟩; replace HB := Lib.hid (below_all HB.out hb); replace HH := Lib.hid (HH.out.past hb); clear hb))
    go_ret
    exact ⟨rfl, HB.out⟩
  have hd2 : (f0 == 0) = false := by simpa using h2
  by_cases h3 : t0 = 0
  · have hd3 : (t0 == 0) = true := by simpa using h3
    clear h3 hd2
    have hd2 : (f0 == 0) = false := by simpa using h2
    clear h2
    go_wp2_with (first | (go_at_call 10; refine (impl_AccountName_any q0 _ (HN.out.below HB.out HNL.out)).mono ?_; rintro e w' ⟨rfl, rfl⟩) | (go_at_call 11; refine (spec_AccountName_any q0 _).mono ?_; rintro e w9 ⟨rfl, hb⟩; replace HB := Lib.hid (below_all HB.out hb); replace HH := Lib.hid (HH.out.past hb); clear hb))
    go_ret
    exact ⟨rfl, HB.out⟩
  have hd3 : (t0 == 0) = false := by simpa using h3
  have hAB1 := Lib.hid (account_good hL hA (u := f0 - 1) (by omega))
  have hAB2 := Lib.hid (account_good hL hA (u := t0 - 1) (by omega))
  obtain ⟨u10, u11⟩ := bal_bound2 hL a0 (f0 - 1)
  obtain ⟨u20, u21⟩ := bal_bound2 hL a0 (t0 - 1)
  obtain ⟨d0, d1⟩ := dSum_bound a0 f0 (t0 - 1) (fun x hx => ledger_entry hL hx) (ledger_len hL)
  obtain ⟨c0', c1'⟩ := cSum_bound a0 f0 (t0 - 1) (fun x hx => ledger_entry hL hx) (ledger_len hL)
  have hdiff := turn_diff (a := a0) (f := f0) (t := t0) (fun x hx => ledger_entry hL hx) (by omega) (by omega)
  have hdd : (balP xs0 a0 (t0 - 1) - balP xs0 a0 (f0 - 1) == dSum xs0 a0 f0 (t0 - 1) - cSum xs0 a0 f0 (t0 - 1)) = true := by simpa using hdiff
  generalize dSum xs0 a0 f0 (t0 - 1) = D at hdd d0 d1 ⊢
  generalize cSum xs0 a0 f0 (t0 - 1) = C at hdd c0' c1' ⊢
  obtain ⟨U1, hU1⟩ : ∃ U1, balP xs0 a0 (f0 - 1) = U1 := ⟨_, rfl⟩
  obtain ⟨U2, hU2⟩ : ∃ U2, balP xs0 a0 (t0 - 1) = U2 := ⟨_, rfl⟩
  rw [hU1] at hdd u10 u11 hAB1
  rw [hU2] at hdd u20 u21 hAB2
  clear h2 h3 hdiff hU1 hU2
  go_wp2_with (first | (go_at_call 10; refine (impl_AccountName_any q0 _ (HN.out.below HB.out HNL.out)).mono ?_; rintro e w' ⟨rfl, rfl⟩) | (go_at_call 11; refine (spec_AccountName_any q0 _).mono ?_; rintro e w9 ⟨rfl, hb⟩; replace HB := Lib.hid (below_all HB.out hb); replace HH := Lib.hid (HH.out.past hb); clear hb))
  refine (impl_AccountBalance_any A0 n0 c0 xs0 a0 (f0 - 1) _ hl0 (by omega) (HH.out.get 1 rfl) hf0 hi0.1 (by unfold In64; omega)).mono ?_
  rw [hAB1.out]
  rintro e v1 ⟨rfl, hb⟩
  replace HB := Lib.hid (below_all HB.out hb); replace HH := Lib.hid (HH.out.past hb); clear hb
  go_wp2_with fail
  refine (impl_AccountBalance_any A0 n0 c0 xs0 a0 (t0 - 1) _ hl0 (by omega) (HH.out.get 1 rfl) hf0 hi0.1 (by unfold In64; omega)).mono ?_
  rw [hAB2.out]
  rintro e v2 ⟨rfl, hb⟩
  replace HB := Lib.hid (below_all HB.out hb); replace HH := Lib.hid (HH.out.past hb); clear hb
  go_wp2
  go_ret
  exact ⟨rfl, HB.out⟩
noncomputable def laidWorld (os : Os) : World :=
  { World.holding Tryd.prog os ⟨#[], #[], []⟩ with heap := (World.holding Tryd.prog os ⟨#[], #[], []⟩).heap.modify 0 fun
      | .cells _ t frozen => .cells (nameL.map Value.string).toArray t frozen
      | o => o }
theorem laid_met (os : Os) : laidMet Tryd.prog Rows.fnTurnoversRow.laid ((laidWorld os).forCall (fun _ _ => 0) ⟨#[], #[.slice none 0 0], []⟩).memory :=
  laidMet_of_run' 8 (by kernel_rfl) (by kernel_rfl)
theorem reads (os : Os) {H : Type} (enc : TypeId × Value → H) : ∃ places, DataW.whole enc Tryd.prog ((laidWorld os).forCall (fun _ _ => 0) ⟨#[], #[.slice none 0 0], []⟩).memory Tryd.f3.params.toList Rows.fnTurnoversSpec.vars false #[Value.slice none 0 0].toList 8 = some ([.nil], [Rows.laid_loop_example_g01025_impl_accountNames], places) :=
  ⟨MemPlace.row ⟨0, 0, none⟩ 10, by kernel_rfl⟩

set_option maxRecDepth 100000 in
theorem lifted (os : Os) (started : os.Started) (H : Type) (enc : TypeId × Value → H) (F : Stop.Interp) :
    ReturnsInHanded {} Tryd.checked os 3 .any ((OpenSpec.ofChange Rows.fnTurnoversSpec).preRow enc Tryd.prog Tryd.f3 Rows.fnTurnoversRow.domain false Rows.fnTurnoversRow.laid) (((OpenSpec.ofChange Rows.fnTurnoversSpec).at F).post enc Tryd.prog Tryd.f3 false true false false) := by
  obtain ⟨places, hx⟩ := reads os enc
  refine law_liftedD os started H enc F 4 (by kernel_rfl) Tryd.func3
    (witness_row_at (enc := enc) (C := Tryd.checked) false (laidWorld os) #[.slice none 0 0] rfl (by kernel_rfl) (by kernel_rfl) (by kernel_rfl)
      (OpenSpec.preRow_of_cond 8 hx (by kernel_rfl) (fun k hk => by cases hk) (by kernel_rfl) (laid_met os))) (by kernel_rfl) rfl Tryd.underlying4
    (by rw [Tryd.params3]; simp only [List.forall_mem_cons]; exact ⟨⟨by kernel_rfl, of_decide_eq_true (by kernel_rfl)⟩, by simp⟩) (fun ds gs hl hg => by
      match ds, hl, gs, hg with
      | [d0], _, [g], _ => rfl) ?_
  intro W base args ds p hval hA hL
  have hN := names_of_laid hL
  rw [Tryd.params3] at hA hval
  obtain ⟨v0, vs0, d0, ds0, p0, q0, hargs, rfl, rfl, h0, r0⟩ := trodAll_cons hA
  obtain ⟨rfl, rfl, rfl⟩ := trodAll_nil r0
  obtain rfl : args = #[v0] := by cases args; simp_all
  obtain ⟨A0, n0, c0, rfl⟩ := okWide_slice Tryd.underlying22 (hval 0 22 v0 rfl rfl)
  obtain ⟨fu0, ho0⟩ := h0
  obtain ⟨bs, hbl, hby, hRd, hnm⟩ := open_code Tryd.underlying22 Tryd.underlying5 (by kernel_rfl) ho0
  exact walk ⟨A0, n0, c0, bs⟩ hbl hby hnm W hRd hN
theorem said : Rows.FnTurnoversSaid :=
  OpenClaim.holds_of_cond 3 Tryd.f3 rfl rfl rfl rfl rfl rfl rfl ⟨rfl, rfl, rfl, rfl, rfl⟩ rfl rfl rfl rfl rfl (by kernel_rfl) Tryd.func3 (by kernel_rfl)
    (of_decide_eq_true (by kernel_rfl)) (by unfold Func.isWrapper; first | (rw [if_pos (by decide +kernel)]; kernel_rfl) | (rw [if_neg (by decide +kernel)]; exact ⟨rfl, rfl⟩))
    (fun os started H enc _ F => by rw [OpenClaim.pre_eq_preRow]; exact lifted os started H enc F)
theorem plain (f : FuncId) (fn : Func) (hf : Tryd.pinned.checked.prog.funcNamed "loop.example/g01025/laws.FnTurnovers" = some f) (hfn : Tryd.pinned.checked.prog.funcs[f]? = some fn) :
    false = Tryd.pinned.checked.prog.looks [] ∧ ∀ (j : Nat) t, fn.params[j]? = some t → Tryd.pinned.checked.prog.wantsStandIn t = false := by
  obtain rfl : f = 3 := Option.some.inj ((show Tryd.prog.funcNamed "loop.example/g01025/laws.FnTurnovers" = some 3 by kernel_rfl).symm.trans hf) |>.symm
  obtain rfl : fn = Tryd.f3 := (Option.some.inj (Tryd.func3.symm.trans hfn)).symm
  refine ⟨by kernel_rfl, fun j t ht => ?_⟩
  rw [Tryd.params3] at ht
  have hm : t ∈ [22] := by simpa using Array.mem_of_getElem? ht


  exact (show ∀ t ∈ [22], Tryd.prog.wantsStandIn t = false by simp only [List.forall_mem_cons]; exact ⟨by kernel_rfl, by simp⟩) t hm
theorem proved : Rows.FnTurnoversCardSaid :=
  Claim7.holds_tied_plain_at .later [] _ _ _ _ said (fun _ h => by cases h) (by kernel_rfl) (fun _ h => by cases h) fnTurnovers_row_tie rfl ⟨rfl, rfl⟩ (by kernel_rfl) rfl plain (by kernel_rfl)
end fnTurnovers
end Go.Proofs.YtoabhnobgdjgkaaDoor

