/- The law on ladders: a ladder of bonds covers its needs without cash; the cash that is needed covers, one less does not. No condition. -/
import Derived.Test.YtlbllonpodckgaaDrawB
import Derived.Test.YtlbllonpodckgaaDrawLaw
import Derived.Test.YtlbllonpodckgaaTail
import Derived.Test.YtlbllonpodckgaaHeld
import Derived.Test.YtlbllonpodckgaaLikesB
import Derived.Test.YtlbllonpodckgaaLadderQ
import Derived.Test.YtlbllonpodckgaaLadderW
import Derived.Test.YtlbllonpodckgaaLadder
import Derived.Test.YtlbllonpodckgaaKept2
import Derived.Test.YtlbllonpodckgaaStInt
import Derived.Test.YtlbllonpodckgaaStBond
import Derived.Test.YtlbllonpodckgaaLaw
import Derived.Test.YtlbllonpodckgaaBase2
namespace Go.Proofs.Ytlbllonpodckgaa
open Go.ChangeShapes Go.WideShapes Go.ChangeAt Go.RowKit Go.Deep
namespace fnLadders
theorem bond_fits {b : Bond} (h : bondB b = true) : b.fits := by
  simp only [bondB, Bool.and_eq_true, inR_true] at h
  unfold Bond.fits In64
  omega
theorem bonds_fit {xs : List Bond} (h : bondsB xs = true) : ∀ x ∈ xs, x.fits := fun x hx => by
  simp only [bondsB, Bool.and_eq_true, List.all_eq_true] at h
  exact bond_fits (h.2 x hx)
set_option maxRecDepth 100000 in
set_option maxHeartbeats 8000000 in
theorem walk (K : Code) (hlen : K.bs.length = K.n) (hbyte : ∀ x ∈ K.bs, 0 ≤ x ∧ x ≤ 255) (hmax : K.n ≤ 9223372036854775807) (w : World) (hX : Rd w w.heap.size K.A 1 (byteRows K.bs)) :
    Calls Try.prog 5 #[.slice K.A K.n K.c] w fun e w' => e = .returned (.bool true) ∧ Below w.heap.size w w' := by
  by_cases hbig : 4096 < K.n
  · have hd : decide (4096 < K.n) = true := by simpa using hbig
    clear hX hbyte hlen
    go_enter Try.func5, Try.ntmps5
    go_wp2_with (go_at_call 20; refine (laws_big_any K.A K.n K.c _ (by omega)).mono ?_; rw [hd]; rintro e w' ⟨rfl, rfl⟩)
    go_ret
    exact ⟨rfl, Below.refl _ _⟩
  have hd : decide (4096 < K.n) = false := by simpa using hbig
  have hK : K.Ok := ⟨hlen, by omega, hbyte⟩
  have HH := Lib.hid ((Held.nil w).snoc hX)
  have HB := Lib.hid (Below.refl w.heap.size w)
  clear hX hbyte hlen hbig
  go_enter Try.func5, Try.ntmps5
  go_wp2_with (go_at_call 20; refine (laws_big_any K.A K.n K.c _ (by omega)).mono ?_; rw [hd]; rintro e w' ⟨rfl, rfl⟩)
  refine (spec_DrawBuildLadder_any K hK _ (HH.out.get 0 rfl)).mono ?_
  rintro e w1 ⟨A0, n0, c0, r0, rfl, hE, hn0, hi0, hb⟩
  obtain ⟨ys0, hl0, hR, hf0⟩ := ints_rd hE
  have hg0 : ∀ y ∈ ys0, In64 y := fun y hy => in64_of (by have := hf0 y hy; omega)
  replace HB := Lib.hid (below_all HB.out hb)
  replace HH := Lib.hid ((HH.out.past hb).snoc hR)
  clear hb
  clear hE hR
  go_wp2_with fail
  refine (impl_BuildLadder_any A0 n0 c0 ys0 r0 _ hl0 (by omega) (HH.out.get 1 rfl) hg0 hi0).mono ?_
  rintro e w2 ⟨A1, n1, c1, rfl, hR, hb⟩
  have hl1 : (ladderP ys0 r0).1.length = n1 := by have := hR.len; simpa [bondRows] using this
  replace HB := Lib.hid (below_all HB.out hb)
  replace HH := Lib.hid ((HH.out.past hb).snoc hR.rd)
  clear hb
  clear hR
  go_wp2_with fail
  refine (spec_BuildLadder_any A0 n0 c0 ys0 r0 _ hl0 (by omega) (HH.out.get 1 rfl) hg0 hi0).mono ?_
  rintro e w3 ⟨A2, n2, c2, rfl, hR, hb⟩
  have hl2 : (ladderP ys0 r0).1.length = n2 := by have := hR.len; simpa [bondRows] using this
  replace HB := Lib.hid (below_all HB.out hb)
  replace HH := Lib.hid ((HH.out.past hb).snoc hR.rd)
  clear hb
  clear hR
  go_wp2_with fail
  refine (spec_DrawCashNeeded_any K hK _ (HH.out.get 0 rfl)).mono ?_
  rintro e w4 ⟨A3, n3, c3, A4, n4, c4, rfl, hE, hn3, hE2, hn4, hb⟩
  obtain ⟨xs, hl3, hR, hf3⟩ := bonds_rd hE
  obtain ⟨ys, hl4, hR2, hf4⟩ := ints_rd hE2
  have hg4 : ∀ y ∈ ys, In64 y := fun y hy => in64_of (by have := hf4 y hy; omega)
  replace HB := Lib.hid (below_all HB.out hb)
  replace HH := Lib.hid (((HH.out.past hb).snoc hR).snoc (hR2.past (Below.refl _ _)))
  clear hb
  clear hE hR
  clear hR2 hE2
  go_wp2_with fail
  refine (impl_CashNeeded_any A3 n3 c3 xs A4 n4 c4 ys _ hl3 (by omega) (HH.out.get 4 rfl) hf3 hl4 (by omega) (HH.out.get 5 rfl) hg4).mono ?_
  rintro e w5 ⟨rfl, hb⟩
  replace HB := Lib.hid (below_all HB.out hb)
  replace HH := Lib.hid (HH.out.past hb)
  clear hb
  go_wp2_with fail
  refine (spec_CashNeeded_any A3 n3 c3 xs A4 n4 c4 ys _ hl3 (by omega) (HH.out.get 4 rfl) hf3 hl4 (by omega) (HH.out.get 5 rfl) hg4).mono ?_
  rintro e w6 ⟨rfl, hb⟩
  replace HB := Lib.hid (below_all HB.out hb)
  replace HH := Lib.hid (HH.out.past hb)
  clear hb
  obtain rfl : n1 = n2 := by rw [← hl1, ← hl2]
  have hs1 : n1 ≤ 1048576 := by rw [← hl1]; exact buildLadder_small0 ys0 (n := n0) (by omega) hl0 hg0 r0
  go_wp2_with fail
  refine (likeBonds9_any A1 n1 c1 A2 c2 (ladderP ys0 r0).1 _ hl1 hs1 (HH.out.get 2 rfl) (HH.out.get 3 rfl)).mono ?_
  rintro e w7 ⟨rfl, hb⟩
  replace HB := Lib.hid (below_all HB.out hb)
  replace HH := Lib.hid (HH.out.past hb)
  clear hb
  clear hd hmax hK
  generalize w7 = wz at HB HH ⊢
  obtain ⟨⟨C, E⟩, hCE⟩ : ∃ p, cashNeededP xs ys = p := ⟨_, rfl⟩
  rw [hCE]
  have HCV := Lib.hid (fun (hE : E = 0) hC => cover_at (xs := xs) (ys := ys) (c := C) (by rw [hCE, hE]) hC)
  clear hCE
  by_cases hE0 : E = 0
  rotate_left
  · have hEb : (E == 0) = false := by simpa using hE0
    cases hmb : ((ladderP ys0 r0).2 == 0)
    · have hmn : ((ladderP ys0 r0).2 != 0) = true := by simpa [bne] using hmb
      go_wp2
      go_ret
      exact ⟨rfl, HB.out⟩
    · have hm0 : (ladderP ys0 r0).2 = 0 := by simpa using hmb
      obtain ⟨k1, k2⟩ := ladder_good hm0
      have HK2 := Lib.hid k2; clear k2
      have HK1 := Lib.hid k1; clear k1
      go_wp2_with fail
      refine (impl_CashNeeded_any A1 n1 c1 (ladderP ys0 r0).1 A0 n0 c0 ys0 _ hl1 hs1 (HH.out.get 2 rfl) (bonds_fit HK1.out) hl0 (by omega) (HH.out.get 1 rfl) hg0).mono ?_
      rw [HK2.out]
      rintro e v5 ⟨rfl, hb⟩
      replace HB := Lib.hid (below_all HB.out hb)
      replace HH := Lib.hid (HH.out.past hb)
      clear hb
      go_wp2_with fail
      refine (impl_AreBonds_any A1 n1 c1 (ladderP ys0 r0).1 _ hl1 hs1 (HH.out.get 2 rfl) (bonds_fit HK1.out)).mono ?_
      rw [HK1.out]
      rintro e v6 ⟨rfl, hb⟩
      replace HB := Lib.hid (below_all HB.out hb)
      clear hb
      go_wp2
      go_ret
      exact ⟨rfl, HB.out⟩
  subst hE0
  by_cases hC9 : C ≤ 1000000000
  rotate_left
  · have hC9b : decide (C ≤ 1000000000) = false := by simpa using hC9
    cases hmb : ((ladderP ys0 r0).2 == 0)
    · have hmn : ((ladderP ys0 r0).2 != 0) = true := by simpa [bne] using hmb
      go_wp2
      go_ret
      exact ⟨rfl, HB.out⟩
    · have hm0 : (ladderP ys0 r0).2 = 0 := by simpa using hmb
      obtain ⟨k1, k2⟩ := ladder_good hm0
      have HK2 := Lib.hid k2; clear k2
      have HK1 := Lib.hid k1; clear k1
      go_wp2_with fail
      refine (impl_CashNeeded_any A1 n1 c1 (ladderP ys0 r0).1 A0 n0 c0 ys0 _ hl1 hs1 (HH.out.get 2 rfl) (bonds_fit HK1.out) hl0 (by omega) (HH.out.get 1 rfl) hg0).mono ?_
      rw [HK2.out]
      rintro e v5 ⟨rfl, hb⟩
      replace HB := Lib.hid (below_all HB.out hb)
      replace HH := Lib.hid (HH.out.past hb)
      clear hb
      go_wp2_with fail
      refine (impl_AreBonds_any A1 n1 c1 (ladderP ys0 r0).1 _ hl1 hs1 (HH.out.get 2 rfl) (bonds_fit HK1.out)).mono ?_
      rw [HK1.out]
      rintro e v6 ⟨rfl, hb⟩
      replace HB := Lib.hid (below_all HB.out hb)
      clear hb
      go_wp2
      go_ret
      exact ⟨rfl, HB.out⟩
  have hC9b : decide (C ≤ 1000000000) = true := by simpa using hC9
  obtain ⟨k3, k4, k5⟩ := HCV.out rfl hC9
  have HK4 := Lib.hid k4; clear k4
  have HK5 := Lib.hid k5; clear k5
  go_wp2_with fail
  refine (impl_DoCover_any A3 n3 c3 xs A4 n4 c4 ys (C) _ hl3 (by omega) (HH.out.get 4 rfl) hf3 hl4 (by omega) (HH.out.get 5 rfl) hg4 (by unfold In64; omega)).mono ?_
  rw [HK4.out]
  rintro e v1 ⟨rfl, hb⟩
  replace HB := Lib.hid (below_all HB.out hb)
  replace HH := Lib.hid (HH.out.past hb)
  clear hb
  by_cases hC0 : 0 < C
  rotate_left
  · have hC0b : decide (0 < C) = false := by simpa using hC0
    cases hmb : ((ladderP ys0 r0).2 == 0)
    · have hmn : ((ladderP ys0 r0).2 != 0) = true := by simpa [bne] using hmb
      go_wp2
      go_ret
      exact ⟨rfl, HB.out⟩
    · have hm0 : (ladderP ys0 r0).2 = 0 := by simpa using hmb
      obtain ⟨k1, k2⟩ := ladder_good hm0
      have HK2 := Lib.hid k2; clear k2
      have HK1 := Lib.hid k1; clear k1
      go_wp2_with fail
      refine (impl_CashNeeded_any A1 n1 c1 (ladderP ys0 r0).1 A0 n0 c0 ys0 _ hl1 hs1 (HH.out.get 2 rfl) (bonds_fit HK1.out) hl0 (by omega) (HH.out.get 1 rfl) hg0).mono ?_
      rw [HK2.out]
      rintro e v5 ⟨rfl, hb⟩
      replace HB := Lib.hid (below_all HB.out hb)
      replace HH := Lib.hid (HH.out.past hb)
      clear hb
      go_wp2_with fail
      refine (impl_AreBonds_any A1 n1 c1 (ladderP ys0 r0).1 _ hl1 hs1 (HH.out.get 2 rfl) (bonds_fit HK1.out)).mono ?_
      rw [HK1.out]
      rintro e v6 ⟨rfl, hb⟩
      replace HB := Lib.hid (below_all HB.out hb)
      clear hb
      go_wp2
      go_ret
      exact ⟨rfl, HB.out⟩
  have hC0b : decide (0 < C) = true := by simpa using hC0
  go_wp2_with fail
  refine (impl_DoCover_any A3 n3 c3 xs A4 n4 c4 ys (C - 1) _ hl3 (by omega) (HH.out.get 4 rfl) hf3 hl4 (by omega) (HH.out.get 5 rfl) hg4 (by unfold In64; omega)).mono ?_
  rw [HK5.out hC0]
  rintro e v2 ⟨rfl, hb⟩
  replace HB := Lib.hid (below_all HB.out hb)
  replace HH := Lib.hid (HH.out.past hb)
  clear hb
  cases hmb : ((ladderP ys0 r0).2 == 0)
  · have hmn : ((ladderP ys0 r0).2 != 0) = true := by simpa [bne] using hmb
    go_wp2
    go_ret
    exact ⟨rfl, HB.out⟩
  · have hm0 : (ladderP ys0 r0).2 = 0 := by simpa using hmb
    obtain ⟨k1, k2⟩ := ladder_good hm0
    have HK2 := Lib.hid k2; clear k2
    have HK1 := Lib.hid k1; clear k1
    go_wp2_with fail
    refine (impl_CashNeeded_any A1 n1 c1 (ladderP ys0 r0).1 A0 n0 c0 ys0 _ hl1 hs1 (HH.out.get 2 rfl) (bonds_fit HK1.out) hl0 (by omega) (HH.out.get 1 rfl) hg0).mono ?_
    rw [HK2.out]
    rintro e v5 ⟨rfl, hb⟩
    replace HB := Lib.hid (below_all HB.out hb)
    replace HH := Lib.hid (HH.out.past hb)
    clear hb
    go_wp2_with fail
    refine (impl_AreBonds_any A1 n1 c1 (ladderP ys0 r0).1 _ hl1 hs1 (HH.out.get 2 rfl) (bonds_fit HK1.out)).mono ?_
    rw [HK1.out]
    rintro e v6 ⟨rfl, hb⟩
    replace HB := Lib.hid (below_all HB.out hb)
    clear hb
    go_wp2
    go_ret
    exact ⟨rfl, HB.out⟩
set_option maxRecDepth 100000 in
theorem lifted (os : Os) (started : os.Started) (H : Type) (enc : TypeId × Value → H) :
    ReturnsInHanded {} Try.checked os 5 .any (Rows.fnLaddersSpec.pre6 enc Try.prog Try.f5 Rows.fnLaddersRow.domain false) (Rows.fnLaddersSpec.post enc Try.prog Try.f5 false true false false) := by
  refine law_lifted os started H enc 4 (by kernel_rfl) Try.func5
    (ChangeSpec.witness6 (enc := enc) (C := Try.checked) false ⟨#[], #[.slice none 0 0], []⟩ 8 (by kernel_rfl) (by kernel_rfl) (by kernel_rfl) (by kernel_rfl)) rfl rfl Try.underlying4
    (by rw [Try.params5]; simp only [List.forall_mem_cons]; exact ⟨⟨by kernel_rfl, of_decide_eq_true (by kernel_rfl)⟩, by simp⟩) (fun ds hl => by
      match ds, hl with
      | [d0], _ => rfl) ?_
  intro W base args ds p hval hA
  rw [Try.params5] at hA hval
  obtain ⟨v0, vs0, d0, ds0, p0, q0, hargs, rfl, rfl, h0, rr0⟩ := trodAll_cons hA
  obtain ⟨rfl, rfl, rfl⟩ := trodAll_nil rr0
  obtain rfl : args = #[v0] := by cases args; simp_all
  obtain ⟨A0, n0, c0, rfl⟩ := okWide_slice Try.underlying43 (hval 0 43 v0 rfl rfl)
  obtain ⟨fu0, ho0⟩ := h0
  obtain ⟨bs, hbl, hby, hRd, hnm⟩ := open_code Try.underlying43 Try.underlying5 (by kernel_rfl) ho0
  exact walk ⟨A0, n0, c0, bs⟩ hbl hby hnm W hRd
theorem proved : Rows.FnLaddersSaid :=
  OpenClaim.holds_of_wide 5 Try.f5 rfl rfl rfl rfl rfl rfl rfl ⟨rfl, rfl, rfl, rfl, rfl⟩ rfl rfl rfl rfl rfl (by kernel_rfl) Try.func5 (by kernel_rfl)
    (of_decide_eq_true (by kernel_rfl)) (by unfold Func.isWrapper; first | (rw [if_pos (by decide +kernel)]; kernel_rfl) | (rw [if_neg (by decide +kernel)]; exact ⟨rfl, rfl⟩))
    (fun os started H enc _ => lifted os started H enc)
end fnLadders
end Go.Proofs.Ytlbllonpodckgaa
