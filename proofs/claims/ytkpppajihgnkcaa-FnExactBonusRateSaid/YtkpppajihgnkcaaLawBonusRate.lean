/- The law on BonusRate: the program's and the reference's results are equal, and the arguments are left as they were. No condition. -/
import Derived.Test.YtkpppajihgnkcaaPort7
import Derived.Test.YtkpppajihgnkcaaLawB
import Derived.Test.YtkpppajihgnkcaaStHolding
import Derived.Test.YtkpppajihgnkcaaLaw
import Derived.Test.YtkpppajihgnkcaaBase2
namespace Go.Proofs.Ytkpppajihgnkcaa
open Go.ChangeShapes Go.WideShapes Go.ChangeAt Go.RowKit Go.Deep
namespace fnExactBonusRate
theorem LawBas.size : (Try.prog.info? 34).map (·.size) = some 3 := by kernel_rfl
theorem basT_of {w : World} {B g n : Nat} {b : Bas} (h : Res B w 2 1 (some ⟨g, 0, none⟩) n n (intRows b.lives)) (T : b.lives.length = n ∧ n ≤ 1048576 ∧ (∀ x ∈ b.lives, In64 x) ∧ In64 b.first ∧ In64 b.rate) : BasT w (some ⟨g, 0, none⟩) n n b :=
  ⟨⟨T.1, T.2.1, h.rd, T.2.2.1⟩, Nat.le_refl _, T.2.2.2.1, T.2.2.2.2⟩
set_option maxRecDepth 100000 in
set_option maxHeartbeats 4000000 in
theorem walk (b : Bas) (A : Option Addr) (n cap : Nat) (H : Option Addr) (m hcap : Nat) (xs : List Holding) (w : World) (hn : n ≤ maxLen) (hl : b.lives.length = n) (hX : Rd w w.heap.size A 1 (intRows b.lives)) (hf : ∀ x ∈ b.lives, In64 x) (i1 : In64 b.first) (i2 : In64 b.rate)
    (hm : m ≤ maxLen) (hl2 : xs.length = m) (hX2 : Rd w w.heap.size H 7 (holdingRows xs)) (hf2 : ∀ x ∈ xs, x.fits) (a2 : Int) (i3 : In64 a2) :
    Calls Try.prog 9 #[.agg #[.int .i64 b.first, .slice A n cap, .int .i64 b.rate], .slice H m hcap, .int .i64 a2] w fun e w' => e = .returned (.bool true) ∧ Below w.heap.size w w' := by
  unfold maxLen at *
  have hbw : Below w.heap.size w (w.alloc (.cells #[.int .i64 b.first, .slice A n cap, .int .i64 b.rate] 34)) := (Below.refl _ w).alloc (Nat.le_refl _) _
  have HA0 := Lib.hid (Blk.new w 34 #[.int .i64 b.first, .slice A n cap, .int .i64 b.rate])
  have hc0 := Lib.hid (Blk.agg (cs := [.int .i64 b.first, .slice A n cap, .int .i64 b.rate]) HA0.out 0 [.int .i64 b.first, .slice A n cap, .int .i64 b.rate] rfl)
  by_cases hs0 : (n : Int) ≤ 1048576
  rotate_left
  · clear hX hf hl hX2 hf2 hl2 i1 i2 i3
    go_enter Try.func9, Try.ntmps9
    go_wp2_with (refine wpList_load_agg rfl 34 _ rfl ⟨w.heap.size, 0, none⟩ rfl [.int .i64 b.first, .slice A n cap, .int .i64 b.rate] hc0.out _ Try.underlying34 rfl LawBas.size ?_)
    refine (szBasis_no _ _ _ _ _ _ _ (by omega) (by omega) (by omega) (by omega)).mono ?_
    rintro e w1 ⟨rfl, hb1⟩
    go_wp2
    go_ret
    exact ⟨rfl, hbw.trans (hb1.mono hbw.size)⟩
  by_cases hs1 : (m : Int) ≤ 1048576 - (n : Int)
  rotate_left
  · clear hX hf hl hX2 hf2 hl2 i1 i2 i3
    go_enter Try.func9, Try.ntmps9
    go_wp2_with (refine wpList_load_agg rfl 34 _ rfl ⟨w.heap.size, 0, none⟩ rfl [.int .i64 b.first, .slice A n cap, .int .i64 b.rate] hc0.out _ Try.underlying34 rfl LawBas.size ?_)
    refine (szBasis_yes _ _ _ _ _ _ _ (by omega) (by omega)).mono ?_
    rintro e w1 ⟨rfl, hb1⟩
    go_wp2_with fail
    refine (szHoldingS_no _ _ _ _ _ (by omega) (by omega) (by omega) (by omega)).mono ?_
    rintro e w' ⟨rfl, rfl⟩
    go_wp2
    go_ret
    exact ⟨rfl, hbw.trans (hb1.mono hbw.size)⟩
  have hn20 : n ≤ 1048576 := by omega
  have hm20 : m ≤ 1048576 := by omega
  have HT := Lib.hid (show b.lives.length = n ∧ n ≤ 1048576 ∧ (∀ x ∈ b.lives, In64 x) ∧ In64 b.first ∧ In64 b.rate from ⟨hl, hn20, hf, i1, i2⟩)
  have HLT := Lib.hid (show LiesT w A n b.lives from ⟨hl, hn20, hX, hf⟩)
  clear hl hX hf i1 i2
  have HI3 := Lib.hid i3; clear i3
  have HX2 := Lib.hid hX2; clear hX2
  have HL2 := Lib.hid hl2; clear hl2
  have HF2 := Lib.hid hf2; clear hf2
  go_enter Try.func9, Try.ntmps9
  go_wp2_with (refine wpList_load_agg rfl 34 _ rfl ⟨w.heap.size, 0, none⟩ rfl [.int .i64 b.first, .slice A n cap, .int .i64 b.rate] hc0.out _ Try.underlying34 rfl LawBas.size ?_)
  refine (szBasis_yes _ _ _ _ _ _ _ (by omega) (by omega)).mono ?_
  rintro e w1 ⟨rfl, hb1⟩
  have HA1 := Lib.hid (HA0.out.below' hb1)
  have BK1 := hbw.trans (hb1.mono hbw.size)
  have hc1 := Lib.hid (Blk.agg (cs := [.int .i64 b.first, .slice A n cap, .int .i64 b.rate]) HA1.out 0 [.int .i64 b.first, .slice A n cap, .int .i64 b.rate] rfl)
  go_wp2_with fail
  refine (szHoldingS_yes _ _ _ _ _ (by omega) (by omega)).mono ?_
  rintro e w' ⟨rfl, rfl⟩
  go_wp2_with (refine wpList_load_agg rfl 34 _ rfl ⟨w.heap.size, 0, none⟩ rfl [.int .i64 b.first, .slice A n cap, .int .i64 b.rate] hc1.out _ Try.underlying34 rfl LawBas.size ?_)
  refine (toBasis_any b A n cap _ (HLT.out.past BK1)).mono ?_
  rintro e w2 ⟨gs, rfl, hRs, hb2⟩
  have HRs := Lib.hid hRs; clear hRs
  have HA2 := Lib.hid (HA1.out.below' hb2)
  have BK2 := BK1.trans (hb2.mono BK1.size)
  go_wp2_with fail
  refine (toHoldingS_any H m hcap xs _ hm20 HL2.out (HX2.out.past BK2)).mono ?_
  rintro e w3 ⟨hs, rfl, hHs, hb3⟩
  have HHs := Lib.hid hHs; clear hHs
  have HA3 := Lib.hid (HA2.out.below' hb3)
  have BK3 := BK2.trans (hb3.mono BK2.size)
  have HBs := Lib.hid (basT_of (HRs.out.past hb3) HT.out)
  go_wp2_with fail
  refine (spec_BonusRate_any b (some ⟨gs, 0, none⟩) n n (some ⟨hs, 0, none⟩) m m xs _ HBs.out HL2.out hm20 HHs.out.rd HF2.out a2 HI3.out).mono ?_
  rintro e w4 ⟨rfl, hb4⟩
  have HA4 := Lib.hid (HA3.out.below' hb4)
  have BK4 := BK3.trans (hb4.mono BK3.size)
  have hc4 := Lib.hid (Blk.agg (cs := [.int .i64 b.first, .slice A n cap, .int .i64 b.rate]) HA4.out 0 [.int .i64 b.first, .slice A n cap, .int .i64 b.rate] rfl)
  go_wp2_with (refine wpList_load_agg rfl 34 _ rfl ⟨w.heap.size, 0, none⟩ rfl [.int .i64 b.first, .slice A n cap, .int .i64 b.rate] hc4.out _ Try.underlying34 rfl LawBas.size ?_)
  refine (toBasis_any b A n cap _ (HLT.out.past BK4)).mono ?_
  rintro e w5 ⟨gx, rfl, hRx, hb5⟩
  have HRx := Lib.hid hRx; clear hRx
  have hba : Below w5.heap.size w5 (w5.alloc (.cells #[.int .i64 b.first, .slice (some ⟨gx, 0, none⟩) n n, .int .i64 b.rate] 39)) := (Below.refl _ w5).alloc (Nat.le_refl _) _
  have HA5 := Lib.hid ((HA4.out.below' hb5).below' hba)
  have BK5 := (BK4.trans (hb5.mono BK4.size)).trans (hba.mono (BK4.trans (hb5.mono BK4.size)).size)
  have HX5 := Lib.hid (Blk.new w5 39 #[.int .i64 b.first, .slice (some ⟨gx, 0, none⟩) n n, .int .i64 b.rate])
  go_wp2_with fail
  refine (toHoldingS_any H m hcap xs _ hm20 HL2.out (HX2.out.past BK5)).mono ?_
  rintro e w6 ⟨hx, rfl, hHx, hb6⟩
  have HHx := Lib.hid hHx; clear hHx
  have HA6 := Lib.hid (HA5.out.below' hb6)
  have HX6 := Lib.hid (HX5.out.below' hb6)
  have HRx6 := Lib.hid ((HRx.out.past hba).past hb6)
  have BK6 := BK5.trans (hb6.mono BK5.size)
  have HBx := Lib.hid (basT_of HRx6.out HT.out)
  have hcX := Lib.hid (Blk.agg (cs := [.int .i64 b.first, .slice (some ⟨gx, 0, none⟩) n n, .int .i64 b.rate]) HX6.out 0 [.int .i64 b.first, .slice (some ⟨gx, 0, none⟩) n n, .int .i64 b.rate] rfl)
  go_wp2_with (refine wpList_load_agg rfl 39 _ rfl ⟨w5.heap.size, 0, none⟩ rfl [.int .i64 b.first, .slice (some ⟨gx, 0, none⟩) n n, .int .i64 b.rate] hcX.out _ Try.underlying39 rfl Bas.size ?_)
  refine (impl_BonusRate_any b (some ⟨gx, 0, none⟩) n n (some ⟨hx, 0, none⟩) m m xs _ HBx.out HL2.out hm20 HHx.out.rd HF2.out a2 HI3.out).mono ?_
  rintro e w7 ⟨rfl, hb7⟩
  have HA7 := Lib.hid (HA6.out.below' hb7)
  have HX7 := Lib.hid (HX6.out.below' hb7)
  have HBx7 := Lib.hid (HBx.out.past hb7)
  have HHx7 := Lib.hid (HHx.out.past hb7)
  have BK7 := BK6.trans (hb7.mono BK6.size)

  have HS := Lib.hid (show ∀ w', Below w7.heap.size w7 w' → Below w7.heap.size w7 w' ∧ w'.cell? ⟨w.heap.size, 0, none⟩ = some (.int .i64 b.first) ∧ w'.cell? ⟨w.heap.size, 1, none⟩ = some (.slice A n cap) ∧ w'.cell? ⟨w.heap.size, 2, none⟩ = some (.int .i64 b.rate) ∧ w'.cell? ⟨w5.heap.size, 0, none⟩ = some (.int .i64 b.first) ∧ w'.cell? ⟨w5.heap.size, 1, none⟩ = some (.slice (some ⟨gx, 0, none⟩) n n) ∧ w'.cell? ⟨w5.heap.size, 2, none⟩ = some (.int .i64 b.rate) from fun w' q => by
    have HA' := HA7.out.below' q
    have HX' := HX7.out.below' q
    exact ⟨q, (HA'.cell 0), (HA'.cell 1), (HA'.cell 2), (HX'.cell 0), (HX'.cell 1), (HX'.cell 2)⟩)
  go_wp2
  go_region_held3 (fun w' => Below w7.heap.size w7 w' ∧ w'.cell? ⟨w.heap.size, 0, none⟩ = some (.int .i64 b.first) ∧ w'.cell? ⟨w.heap.size, 1, none⟩ = some (.slice A n cap) ∧ w'.cell? ⟨w.heap.size, 2, none⟩ = some (.int .i64 b.rate) ∧ w'.cell? ⟨w5.heap.size, 0, none⟩ = some (.int .i64 b.first) ∧ w'.cell? ⟨w5.heap.size, 1, none⟩ = some (.slice (some ⟨gx, 0, none⟩) n n) ∧ w'.cell? ⟨w5.heap.size, 2, none⟩ = some (.int .i64 b.rate)) (first | exact HS.out _ (Below.drew (Below.refl _ _)) | exact HS.out _ hc9 | exact HS.out _ hc8) (first | (go_at_call 24; rename Below w7.heap.size w7 _ ∧ _ => hH; refine (toBasis_any b A n cap _ (HLT.out.past (BK7.trans (hH.1.mono BK7.size)))).mono ?_; rintro e w8 ⟨gy, rfl, hRy, hb8⟩; have hc8 := hH.1.trans (hb8.mono hH.1.size); have HBy := Lib.hid (basT_of hRy HT.out); clear hRy) | (go_at_call 27; refine (eqBasis_any b (some ⟨gx, 0, none⟩) (some ⟨gy, 0, none⟩) n n n _ (by omega) (HBx7.out.past hc8) HBy.out).mono ?_; rintro e w9 ⟨rfl, hb9⟩; have hc9 := hc8.trans (hb9.mono hc8.size)))
  all_goals (rename Below w7.heap.size w7 _ ∧ _ => hE; replace hE := hE.1)
  have BK9 := BK7.trans (hE.mono BK7.size)
  have HHx9 := Lib.hid (HHx7.out.past hE)
  go_wp2_with fail
  refine (toHoldingS_any H m hcap xs _ hm20 HL2.out (HX2.out.past BK9)).mono ?_
  rintro e w10 ⟨hy, rfl, hHy, hb10⟩
  have HHy := Lib.hid hHy; clear hHy
  have BK10 := BK9.trans (hb10.mono BK9.size)
  go_wp2_with fail
  refine (eqHoldingS_any (some ⟨hx, 0, none⟩) (some ⟨hy, 0, none⟩) m m m xs _ (by omega) HL2.out (HHx9.out.past hb10).rd HHy.out.rd).mono ?_
  rintro e w11 ⟨rfl, hb11⟩
  go_wp2
  go_ret
  exact ⟨rfl, BK10.trans (hb11.mono BK10.size)⟩

set_option maxRecDepth 100000 in
theorem lifted (os : Os) (started : os.Started) (H : Type) (enc : TypeId × Value → H) :
    ReturnsInHanded {} Try.checked os 9 .any (Rows.fnExactBonusRateSpec.pre6 enc Try.prog Try.f9 Rows.fnExactBonusRateRow.domain false) (Rows.fnExactBonusRateSpec.post enc Try.prog Try.f9 false true false false) := by
  refine law_lifted os started H enc 4 (by kernel_rfl) Try.func9
    (ChangeSpec.witness6 (enc := enc) (C := Try.checked) false ⟨#[], #[.agg #[.int .i64 0, .slice none 0 0, .int .i64 0], .slice none 0 0, .int .i64 0], []⟩ 8 (by kernel_rfl) (by kernel_rfl) (by kernel_rfl) (by kernel_rfl)) rfl rfl Try.underlying4
    (by rw [Try.params9]; simp only [List.forall_mem_cons]; exact ⟨⟨by kernel_rfl, of_decide_eq_true (by kernel_rfl)⟩, ⟨by kernel_rfl, of_decide_eq_true (by kernel_rfl)⟩, ⟨by kernel_rfl, of_decide_eq_true (by kernel_rfl)⟩, by simp⟩) (fun ds hl => by
      match ds, hl with
      | [d0, d1, d2], _ => rfl) ?_
  intro W base args ds p hval hA
  rw [Try.params9] at hA hval
  obtain ⟨v0, vs0, d0, ds0, p0, q0, hargs, rfl, rfl, h0, rr0⟩ := trodAll_cons hA
  obtain ⟨v1, vs1, d1, ds1, p1, q1, rfl, rfl, rfl, h1, rr1⟩ := trodAll_cons rr0
  obtain ⟨v2, vs2, d2, ds2, p2, q2, rfl, rfl, rfl, h2, rr2⟩ := trodAll_cons rr1
  obtain ⟨rfl, rfl, rfl⟩ := trodAll_nil rr2
  obtain rfl : args = #[v0, v1, v2] := by cases args; simp_all
  obtain ⟨b, A, n, cap, rfl, hn, hl, hX, hf, i1, i2⟩ := open_basis (hval 0 34 v0 rfl rfl) h0
  obtain ⟨A1, n1, c1, rfl⟩ := okWide_slice Try.underlying59 (hval 1 59 v1 rfl rfl)
  obtain ⟨fu1, ho1⟩ := h1
  obtain ⟨hn1, rw1, hrl1, hrw1, hRd1⟩ := open_rows Try.underlying59 (by kernel_rfl) (by decide) Holding.intCells ho1
  obtain ⟨xs1, hxl1, hxr1, hxf1⟩ := Holding.of_nums rw1 hrw1
  rw [← hxr1] at hRd1
  obtain ⟨a2, rfl, rfl, rfl, wf2⟩ := open_int Try.underlying2 (hval 2 2 v2 rfl rfl) h2
  exact walk b A n cap A1 n1 c1 xs1 W hn hl hX hf i1 i2 hn1 (hxl1.trans hrl1) hRd1 hxf1 a2 (in64_of_wf wf2)
theorem proved : Rows.FnExactBonusRateSaid :=
  OpenClaim.holds_of_wide 9 Try.f9 rfl rfl rfl rfl rfl rfl rfl ⟨rfl, rfl, rfl, rfl, rfl⟩ rfl rfl rfl rfl rfl (by kernel_rfl) Try.func9 (by kernel_rfl)
    (of_decide_eq_true (by kernel_rfl)) (by unfold Func.isWrapper; first | (rw [if_pos (by decide +kernel)]; kernel_rfl) | (rw [if_neg (by decide +kernel)]; exact ⟨rfl, rfl⟩))
    (fun os started H enc _ => lifted os started H enc)
end fnExactBonusRate
end Go.Proofs.Ytkpppajihgnkcaa
