/- Parts of a proof, one after another: Share4, StBasis, LawB, LawC. No condition. -/
import Derived.Test.YtbjdbpdgacfcpaaGreatK1
import Derived.Test.YtbjdbpdgacfcpaaGreatK2
import Derived.Test.YtbjdbpdgacfcpaaGreatK9
import Derived.Test.YtbjdbpdgacfcpaaGreatK20
import Derived.Test.YtbjdbpdgacfcpaaGreatK21
import Derived.Deep.DeepCutAuto
/- The division of a bonus: both sides (printed by divb.py). -/
section
namespace Go.Proofs.YtbjdbpdgacfcpaaGreat
open Go.RowKit Go.BigFrame

theorem dv_small (b : Bas) (xs : List Holding) (a s : Int) : (dvP b xs a s).1.length ≤ 1048576 := by
  unfold dvP
  split
  · rename_i h
    have := (port_hold h).1
    split
    · unfold shP
      split
      · simp
      · rw [sharesL_length, weights_length]; omega
    · simp
  · simp
set_option maxRecDepth 20000 in
set_option maxHeartbeats 8000000 in
theorem impl_DivideBonus_any (b : Bas) (A : Option Addr) (n cap : Nat) (H : Option Addr) (m hcap : Nat) (xs : List Holding) (a s : Int) (w : World) (hB : BasT w A n cap b) (hl : xs.length = m) (hm : m ≤ 1048576) (hX : Rd w w.heap.size H 7 (holdingRows xs)) (hf : ∀ x ∈ xs, x.fits) (_ha : In64 a) (_hs : In64 s) :
    Calls Tryz.prog 53 #[.agg #[.int .i64 b.first, .slice A n cap, .int .i64 b.rate], .slice H m hcap, .int .i64 a, .int .i64 s] w fun e w' => ∃ A' n' c', e = .returned (.tuple #[.slice A' n' c', .int .i64 (dvP b xs a s).2]) ∧ Res w.heap.size w' 2 1 A' n' c' (intRows (dvP b xs a s).1) ∧ Below w.heap.size w w' := by
  have HF := Lib.hid hf; clear hf
  have HL := Lib.hid hl; clear hl
  have HB := Lib.hid (Below.refl w.heap.size w)
  have HH := Lib.hid ((Held.nil w).cons hX); clear hX
  have HT := Lib.hid hB; clear hB
  obtain ⟨hb, hr0⟩ := box1 (w := w) (tx := 28) (X := [.int .i64 b.first, .slice A n cap, .int .i64 b.rate])
  replace HB := Lib.hid (below_all HB.out hb)
  replace HT := Lib.hid (HT.out.past hb)
  replace HH := Lib.hid ((HH.out.past hb).cons hr0)
  clear hb hr0
  cases hp : portB b xs
  · skip
    have Q := Lib.hid (show dvP b xs a s = ([], 1) by unfold dvP; rw [if_neg (by rw [hp]; simp)])
    go_enter Tryz.func53, Tryz.ntmps53
    have HL_bx := Lib.hid (Rd.box (HH.out.get 0 rfl))
    go_wp2_with (refine wpList_load_agg rfl 28 _ rfl ⟨w.heap.size, 0, none⟩ rfl [.int .i64 b.first, .slice A n cap, .int .i64 b.rate] HL_bx.out _ Tryz.underlying28 rfl Bas.size ?_)
    clear HL_bx
    generalize (w.alloc (.cells #[.int .i64 b.first, .slice A n cap, .int .i64 b.rate] 28)) = v0 at HB HH HT ⊢
    generalize w.heap.size = g0_0 at HH ⊢
    refine (impl_IsPortfolio_any b A n cap H m hcap xs _ HT.out HL.out hm (HH.out.get 1 rfl) HF.out).mono ?_
    rw [hp]
    rintro e w1 ⟨rfl, hb⟩
    replace HB := Lib.hid (below_all HB.out hb)
    replace HT := Lib.hid (HT.out.past hb)
    replace HH := Lib.hid (HH.out.past hb)
    clear hb
    go_wp2
    go_ret2
    exact ⟨none, 0, 0, by rw [Q.out]; rfl, by rw [Q.out]; exact Res.nil_, HB.out⟩
  · skip
    cases hin : (inR a 0 1000000000 && inR s 0 500)
    · skip
      have Q := Lib.hid (show dvP b xs a s = ([], 2) by unfold dvP; rw [if_pos hp, if_neg (by rw [hin]; simp)])
      have HIN := Lib.hid hin; clear hin
      go_enter Tryz.func53, Tryz.ntmps53
      have HL_bx := Lib.hid (Rd.box (HH.out.get 0 rfl))
      go_wp2_with (refine wpList_load_agg rfl 28 _ rfl ⟨w.heap.size, 0, none⟩ rfl [.int .i64 b.first, .slice A n cap, .int .i64 b.rate] HL_bx.out _ Tryz.underlying28 rfl Bas.size ?_)
      clear HL_bx
      generalize (w.alloc (.cells #[.int .i64 b.first, .slice A n cap, .int .i64 b.rate] 28)) = v0 at HB HH HT ⊢
      generalize w.heap.size = g0_0 at HH ⊢
      refine (impl_IsPortfolio_any b A n cap H m hcap xs _ HT.out HL.out hm (HH.out.get 1 rfl) HF.out).mono ?_
      rw [hp]
      rintro e w1 ⟨rfl, hb⟩
      replace HB := Lib.hid (below_all HB.out hb)
      replace HT := Lib.hid (HT.out.past hb)
      replace HH := Lib.hid (HH.out.past hb)
      clear hb
      go_wp2_with (go_at_call 123; refine (impl_isSurplus_any _ _ _).mono ?_; rw [HIN.out]; rintro e w' ⟨rfl, rfl⟩)
      go_ret2
      exact ⟨none, 0, 0, by rw [Q.out]; rfl, by rw [Q.out]; exact Res.nil_, HB.out⟩
    · skip
      obtain ⟨h30, hh⟩ := port_hold hp
      have hm30 : m ≤ 30 := by have := HL.out; omega
      have HHO := Lib.hid hh
      have hi1 : inR a 0 1000000000 = true := by simp only [Bool.and_eq_true] at hin; exact hin.1
      have hi2 : inR s 0 500 = true := by simp only [Bool.and_eq_true] at hin; exact hin.2
      obtain ⟨a0, a1⟩ := inR_true.1 hi1
      obtain ⟨s0, s1⟩ := inR_true.1 hi2
      obtain ⟨k0, k1⟩ := kept_le a0 ⟨s0, s1⟩
      obtain ⟨m0, m1⟩ := mul_bounds hi1 hi2
      have HWB := Lib.hid (weights_bound hh)
      have HWL := Lib.hid (show (weightsL b xs).length = m by rw [weights_length]; exact HL.out)
      have QD := Lib.hid (show dvP b xs a s = shP (a - ceilDiv (a * s) 1000) (weightsL b xs) by unfold dvP; rw [if_pos hp, if_pos hin])
      obtain ⟨kp, hkp⟩ : ∃ kp, kp = ceilDiv (a * s) 1000 := ⟨_, rfl⟩
      have HKP := Lib.hid hkp
      rw [← hkp] at k0 k1 QD
      have HP := Lib.hid hp; have HIN := Lib.hid hin
      clear hkp hh h30
      clear hp hin
      go_enter Tryz.func53, Tryz.ntmps53
      have HL_bx := Lib.hid (Rd.box (HH.out.get 0 rfl))
      go_wp2_with (refine wpList_load_agg rfl 28 _ rfl ⟨w.heap.size, 0, none⟩ rfl [.int .i64 b.first, .slice A n cap, .int .i64 b.rate] HL_bx.out _ Tryz.underlying28 rfl Bas.size ?_)
      clear HL_bx
      generalize (w.alloc (.cells #[.int .i64 b.first, .slice A n cap, .int .i64 b.rate] 28)) = v0 at HB HH HT ⊢
      generalize w.heap.size = g0_0 at HH ⊢
      refine (impl_IsPortfolio_any b A n cap H m hcap xs _ HT.out HL.out hm (HH.out.get 1 rfl) HF.out).mono ?_
      rw [HP.out]
      rintro e w1 ⟨rfl, hb⟩
      replace HB := Lib.hid (below_all HB.out hb)
      replace HT := Lib.hid (HT.out.past hb)
      replace HH := Lib.hid (HH.out.past hb)
      clear hb
      go_upto_region 5 with (go_at_call 123; refine (impl_isSurplus_any _ _ _).mono ?_; rw [HIN.out]; rintro e w' ⟨rfl, rfl⟩)
      have p0 : w1.cell? ⟨g0_0, 0, none⟩ = some (.int .i64 b.first) := Rd.bcell (HH.out.get 0 rfl) 0 rfl
      have p1 : w1.cell? ⟨g0_0, 1, none⟩ = some (.slice A n cap) := Rd.bcell (HH.out.get 0 rfl) 1 rfl
      have p2 : w1.cell? ⟨g0_0, 2, none⟩ = some (.int .i64 b.rate) := Rd.bcell (HH.out.get 0 rfl) 2 rfl
      have hwr : IntKind.i64.wrap (a * s) = a * s := IntWalk.i64_in _ (by omega)
      have hwk : IntKind.i64.wrap (a - kp) = a - kp := IntWalk.i64_in _ (by omega)
      have HXD := Lib.hid (HH.out.get 1 rfl)
      go_region_law (first | (go_simp; go_at_call 125; refine (impl_up_any _ _ _ (by omega) (by omega) (by omega) (by omega)).mono ?_; rw [← HKP.out]; rintro e w' ⟨rfl, rfl⟩) | (go_simp; go_at_call 126; refine (impl_bonusWeights_any b A n cap H m hcap xs _ (by first | exact HT.out | exact HT.out.past (Below.refl _ _).drew) HL.out hm30 (by first | exact HXD.out | exact HXD.out.past (Below.refl _ _).drew) HHO.out).mono ?_; rintro e w8 ⟨A8, c8, rfl, hR8, hb8⟩; have HR8 := Lib.hid hR8; have HB8 := Lib.hid (show Below w1.heap.size w1 w8 by first | exact hb8 | exact of_drew hb8)) | (go_simp; go_at_call 124; refine (impl_ShareOut_at (a - kp) A8 m c8 (weightsL b xs) _ HWL.out hm30 HR8.out.rd HWB.out ⟨by omega, by omega⟩).mono ?_; rintro e w9 ⟨A9, n9, c9, rfl, hR9, hb9⟩; have HR9 := Lib.hid hR9; have HB9 := Lib.hid hb9))
      all_goals
        have HBF := Lib.hid (below_all (below_all HB.out HB8.out) HB9.out)
        have HRF := Lib.hid (HR9.out.more (Nat.le_trans HB.out.size HB8.out.size))
        go_wp2
        go_ret2
        exact ⟨A9, n9, c9, by rw [QD.out]; rfl, by rw [QD.out]; exact HRF.out, HBF.out⟩
set_option maxRecDepth 20000 in
set_option maxHeartbeats 8000000 in
theorem spec_DivideBonus_any (b : Bas) (A : Option Addr) (n cap : Nat) (H : Option Addr) (m hcap : Nat) (xs : List Holding) (a s : Int) (w : World) (hB : BasT w A n cap b) (hl : xs.length = m) (hm : m ≤ 1048576) (hX : Rd w w.heap.size H 7 (holdingRows xs)) (hf : ∀ x ∈ xs, x.fits) (_ha : In64 a) (_hs : In64 s) :
    Calls Tryz.prog 50 #[.agg #[.int .i64 b.first, .slice A n cap, .int .i64 b.rate], .slice H m hcap, .int .i64 a, .int .i64 s] w fun e w' => ∃ A' n' c', e = .returned (.tuple #[.slice A' n' c', .int .i64 (dvP b xs a s).2]) ∧ Res w.heap.size w' 2 1 A' n' c' (intRows (dvP b xs a s).1) ∧ Below w.heap.size w w' := by
  have HF := Lib.hid hf; clear hf
  have HL := Lib.hid hl; clear hl
  have HB := Lib.hid (Below.refl w.heap.size w)
  have HH := Lib.hid ((Held.nil w).cons hX); clear hX
  have HT := Lib.hid hB; clear hB
  obtain ⟨hb, hr0⟩ := box1 (w := w) (tx := 28) (X := [.int .i64 b.first, .slice A n cap, .int .i64 b.rate])
  replace HB := Lib.hid (below_all HB.out hb)
  replace HT := Lib.hid (HT.out.past hb)
  replace HH := Lib.hid ((HH.out.past hb).cons hr0)
  clear hb hr0
  cases hp : portB b xs
  · skip
    have Q := Lib.hid (show dvP b xs a s = ([], 1) by unfold dvP; rw [if_neg (by rw [hp]; simp)])
    go_enter Tryz.func50, Tryz.ntmps50
    have HL_bx := Lib.hid (Rd.box (HH.out.get 0 rfl))
    go_wp2_with (refine wpList_load_agg rfl 28 _ rfl ⟨w.heap.size, 0, none⟩ rfl [.int .i64 b.first, .slice A n cap, .int .i64 b.rate] HL_bx.out _ Tryz.underlying28 rfl Bas.size ?_)
    clear HL_bx
    generalize (w.alloc (.cells #[.int .i64 b.first, .slice A n cap, .int .i64 b.rate] 28)) = v0 at HB HH HT ⊢
    generalize w.heap.size = g0_0 at HH ⊢
    refine (spec_IsPortfolio_any b A n cap H m hcap xs _ HT.out HL.out hm (HH.out.get 1 rfl) HF.out).mono ?_
    rw [hp]
    rintro e w1 ⟨rfl, hb⟩
    replace HB := Lib.hid (below_all HB.out hb)
    replace HT := Lib.hid (HT.out.past hb)
    replace HH := Lib.hid (HH.out.past hb)
    clear hb
    go_wp2
    go_ret2
    exact ⟨none, 0, 0, by rw [Q.out]; rfl, by rw [Q.out]; exact Res.nil_, HB.out⟩
  · skip
    cases hin : (inR a 0 1000000000 && inR s 0 500)
    · skip
      have Q := Lib.hid (show dvP b xs a s = ([], 2) by unfold dvP; rw [if_pos hp, if_neg (by rw [hin]; simp)])
      have HKQ := Lib.hid (show keptPart a s = (0, 2) by unfold keptPart; rw [if_neg (fun h => by rw [h.1, h.2] at hin; cases hin)])
      go_enter Tryz.func50, Tryz.ntmps50
      have HL_bx := Lib.hid (Rd.box (HH.out.get 0 rfl))
      go_wp2_with (refine wpList_load_agg rfl 28 _ rfl ⟨w.heap.size, 0, none⟩ rfl [.int .i64 b.first, .slice A n cap, .int .i64 b.rate] HL_bx.out _ Tryz.underlying28 rfl Bas.size ?_)
      clear HL_bx
      generalize (w.alloc (.cells #[.int .i64 b.first, .slice A n cap, .int .i64 b.rate] 28)) = v0 at HB HH HT ⊢
      generalize w.heap.size = g0_0 at HH ⊢
      refine (spec_IsPortfolio_any b A n cap H m hcap xs _ HT.out HL.out hm (HH.out.get 1 rfl) HF.out).mono ?_
      rw [hp]
      rintro e w1 ⟨rfl, hb⟩
      replace HB := Lib.hid (below_all HB.out hb)
      replace HT := Lib.hid (HT.out.past hb)
      replace HH := Lib.hid (HH.out.past hb)
      clear hb
      go_wp2_with (go_at_call 65; refine (spec_KeptPart_any _ _ _).mono ?_; rw [HKQ.out]; rintro e w' ⟨rfl, rfl⟩)
      go_ret2
      exact ⟨none, 0, 0, by rw [Q.out]; rfl, by rw [Q.out]; exact Res.nil_, HB.out⟩
    · skip
      obtain ⟨h30, hh⟩ := port_hold hp
      have hm30 : m ≤ 30 := by have := HL.out; omega
      have HHO := Lib.hid hh
      have hi1 : inR a 0 1000000000 = true := by simp only [Bool.and_eq_true] at hin; exact hin.1
      have hi2 : inR s 0 500 = true := by simp only [Bool.and_eq_true] at hin; exact hin.2
      obtain ⟨a0, a1⟩ := inR_true.1 hi1
      obtain ⟨s0, s1⟩ := inR_true.1 hi2
      obtain ⟨k0, k1⟩ := kept_le a0 ⟨s0, s1⟩
      obtain ⟨m0, m1⟩ := mul_bounds hi1 hi2
      have HWB := Lib.hid (weights_bound hh)
      have HWL := Lib.hid (show (weightsL b xs).length = m by rw [weights_length]; exact HL.out)
      have QD := Lib.hid (show dvP b xs a s = shP (a - ceilDiv (a * s) 1000) (weightsL b xs) by unfold dvP; rw [if_pos hp, if_pos hin])
      obtain ⟨kp, hkp⟩ : ∃ kp, kp = ceilDiv (a * s) 1000 := ⟨_, rfl⟩
      have HKP := Lib.hid hkp
      rw [← hkp] at k0 k1 QD
      have HP := Lib.hid hp; have HIN := Lib.hid hin
      clear hkp hh h30
      have HKQ := Lib.hid (show keptPart a s = (kp, 0) by unfold keptPart; rw [if_pos ⟨hi1, hi2⟩, HKP.out])
      obtain ⟨HSU, hsm0, hsm1⟩ := sums_of (xs := weightsL b xs) (n := 30) (hi := 1000000000) (by omega) (by have := HWL.out; omega) HWB.out (by omega)
      have HSU := Lib.hid HSU
      clear hp hin hi1 hi2
      go_enter Tryz.func50, Tryz.ntmps50
      have HL_bx := Lib.hid (Rd.box (HH.out.get 0 rfl))
      go_wp2_with (refine wpList_load_agg rfl 28 _ rfl ⟨w.heap.size, 0, none⟩ rfl [.int .i64 b.first, .slice A n cap, .int .i64 b.rate] HL_bx.out _ Tryz.underlying28 rfl Bas.size ?_)
      clear HL_bx
      generalize (w.alloc (.cells #[.int .i64 b.first, .slice A n cap, .int .i64 b.rate] 28)) = v0 at HB HH HT ⊢
      generalize w.heap.size = g0_0 at HH ⊢
      refine (spec_IsPortfolio_any b A n cap H m hcap xs _ HT.out HL.out hm (HH.out.get 1 rfl) HF.out).mono ?_
      rw [HP.out]
      rintro e w1 ⟨rfl, hb⟩
      replace HB := Lib.hid (below_all HB.out hb)
      replace HT := Lib.hid (HT.out.past hb)
      replace HH := Lib.hid (HH.out.past hb)
      clear hb
      go_upto_region 6 with (go_at_call 65; refine (spec_KeptPart_any _ _ _).mono ?_; rw [HKQ.out]; rintro e w' ⟨rfl, rfl⟩)
      have HL_bx := Lib.hid (Rd.box (HH.out.get 0 rfl))
      go_wp2_with (refine wpList_load_agg rfl 28 _ rfl ⟨g0_0, 0, none⟩ rfl [.int .i64 b.first, .slice A n cap, .int .i64 b.rate] HL_bx.out _ Tryz.underlying28 rfl Bas.size ?_)
      clear HL_bx
      refine (spec_l19Weights_any b A n cap H m hcap xs _ HT.out HL.out hm30 (HH.out.get 1 rfl) HHO.out).mono ?_
      rintro e w2 ⟨A8, c8, rfl, hR, hb⟩
      replace HB := Lib.hid (below_all HB.out hb)
      replace HT := Lib.hid (HT.out.past hb)
      replace HH := Lib.hid ((HH.out.past hb).cons hR.rd)
      clear hb
      clear hR
      by_cases hz : (weightsL b xs).sum = 0
      · skip
        have Q := Lib.hid (QD.out.trans (if_pos hz))
        have HZ := Lib.hid hz; clear hz
        go_wp2_with (go_at_call 119; refine (spec_l01Sum_any A8 m c8 (weightsL b xs) _ HWL.out (by omega) (HH.out.get 0 rfl) HSU.out).mono ?_; rw [HZ.out]; rintro e w' ⟨rfl, rfl⟩)
        go_ret2
        exact ⟨none, 0, 0, by rw [Q.out]; rfl, by rw [Q.out]; exact Res.nil_, HB.out⟩
      · skip
        have Q := Lib.hid (QD.out.trans (if_neg hz))
        have hzb : ((weightsL b xs).sum == 0) = false := by simpa using hz
        have hpos : 0 < (weightsL b xs).sum := by omega
        have hm1 : 1 ≤ m := by
          rcases Nat.eq_zero_or_pos m with h | h
          · exfalso; apply hz; have h2 : weightsL b xs = [] := List.length_eq_zero_iff.1 (by rw [HWL.out]; exact h)
            rw [h2]; rfl
          · exact h
        clear hz
        go_upto_region 9 with (go_at_call 119; refine (spec_l01Sum_any A8 m c8 (weightsL b xs) _ HWL.out (by omega) (HH.out.get 0 rfl) HSU.out).mono ?_; rintro e w' ⟨rfl, rfl⟩)
        go_wp2_with fail
        refine (spec_l01Share_any (a - kp) A8 m c8 (weightsL b xs) _ HWL.out hm1 hm30 (HH.out.get 0 rfl) HWB.out ⟨by omega, by omega⟩ hpos).mono ?_
        rintro e w3 ⟨A9, c9, rfl, hR, hb⟩
        have HR9 := Lib.hid (hR.more (HB.out.size))
        replace HB := Lib.hid (below_all HB.out hb)
        replace HT := Lib.hid (HT.out.past hb)
        replace HH := Lib.hid (HH.out.past hb)
        clear hb
        clear hR
        go_wp2
        go_ret2
        exact ⟨A9, m, c9, by rw [Q.out]; rfl, by rw [Q.out]; exact HR9.out, HB.out⟩
end Go.Proofs.YtbjdbpdgacfcpaaGreat
end

/- Life tables and bases in the laws: size, copy, equality. -/
section
namespace Go.Proofs.YtbjdbpdgacfcpaaGreat
open Go.RowKit Go.BigFrame

theorem LawLT.size : (Tryz.prog.info? 69).map (·.size) = some 2 := by kernel_rfl

theorem szLifeTable_yes (first : Int) (A : Option Addr) (n cap : Nat) (left : Int) (w : World) (h0 : (n : Int) ≤ left) (h1 : left ≤ 1048576) :
    Calls Tryz.prog 117 #[.agg #[.int .i64 first, .slice A n cap], .int .i64 left] w fun e w' => e = .returned (.int .i64 (left - (n : Int))) ∧ Below w.heap.size w w' := by
  have hbw : Below w.heap.size w (w.alloc (.cells #[.int .i64 first, .slice A n cap] 69)) := (Below.refl _ w).alloc (Nat.le_refl _) _
  have HB := Lib.hid (Blk.new w 69 #[.int .i64 first, .slice A n cap])
  have hcT := Lib.hid (Blk.agg (cs := [.int .i64 first, .slice A n cap]) HB.out 0 [.int .i64 first, .slice A n cap] rfl)
  have h2 : ¬ (left - (n : Int) < 0) := by omega
  go_enter Tryz.func117, Tryz.ntmps117
  go_wp2_with fail
  refine (szInt64S_yes A n cap left _ h0 h1).mono ?_
  rintro e w1 ⟨rfl, rfl⟩
  go_wp2
  go_ret
  exact ⟨rfl, hbw⟩

theorem szLifeTable_no (first : Int) (A : Option Addr) (n cap : Nat) (left : Int) (w : World) (hn : n ≤ 9223372036854775807) (h0 : left < (n : Int)) (h1 : 0 ≤ left) (h2' : left ≤ 1048576) :
    Calls Tryz.prog 117 #[.agg #[.int .i64 first, .slice A n cap], .int .i64 left] w fun e w' => e = .returned (.int .i64 (-1)) ∧ Below w.heap.size w w' := by
  have hbw : Below w.heap.size w (w.alloc (.cells #[.int .i64 first, .slice A n cap] 69)) := (Below.refl _ w).alloc (Nat.le_refl _) _
  have HB := Lib.hid (Blk.new w 69 #[.int .i64 first, .slice A n cap])
  have hcT := Lib.hid (Blk.agg (cs := [.int .i64 first, .slice A n cap]) HB.out 0 [.int .i64 first, .slice A n cap] rfl)
  go_enter Tryz.func117, Tryz.ntmps117
  go_wp2_with fail
  refine (szInt64S_no A n cap left _ hn h0 h1 h2').mono ?_
  rintro e w1 ⟨rfl, rfl⟩
  go_wp2
  go_ret
  exact ⟨rfl, hbw⟩

theorem szBasis_yes (first rate : Int) (A : Option Addr) (n cap : Nat) (left : Int) (w : World) (h0 : (n : Int) ≤ left) (h1 : left ≤ 1048576) :
    Calls Tryz.prog 48 #[.agg #[.int .i64 first, .slice A n cap, .int .i64 rate], .int .i64 left] w fun e w' => e = .returned (.int .i64 (left - (n : Int))) ∧ Below w.heap.size w w' := by
  have hbw : Below w.heap.size w (w.alloc (.cells #[.int .i64 first, .slice A n cap, .int .i64 rate] 71)) := (Below.refl _ w).alloc (Nat.le_refl _) _
  have HB := Lib.hid (Blk.new w 71 #[.int .i64 first, .slice A n cap, .int .i64 rate])
  have hcT := Lib.hid (Blk.agg (cs := [.int .i64 first, .slice A n cap, .int .i64 rate]) HB.out 0 [.int .i64 first, .slice A n cap] rfl)
  have h2 : ¬ (left - (n : Int) < 0) := by omega
  go_enter Tryz.func48, Tryz.ntmps48
  go_wp2_with (refine wpList_load_agg rfl 69 _ rfl ⟨w.heap.size, 0, none⟩ rfl [.int .i64 first, .slice A n cap] hcT.out _ Tryz.underlying69 rfl LawLT.size ?_)
  refine (szLifeTable_yes first A n cap left _ h0 h1).mono ?_
  rintro e w1 ⟨rfl, hb1⟩
  go_wp2
  go_ret
  exact ⟨rfl, hbw.trans (hb1.mono hbw.size)⟩

theorem szBasis_no (first rate : Int) (A : Option Addr) (n cap : Nat) (left : Int) (w : World) (hn : n ≤ 9223372036854775807) (h0 : left < (n : Int)) (h1 : 0 ≤ left) (h2' : left ≤ 1048576) :
    Calls Tryz.prog 48 #[.agg #[.int .i64 first, .slice A n cap, .int .i64 rate], .int .i64 left] w fun e w' => e = .returned (.int .i64 (-1)) ∧ Below w.heap.size w w' := by
  have hbw : Below w.heap.size w (w.alloc (.cells #[.int .i64 first, .slice A n cap, .int .i64 rate] 71)) := (Below.refl _ w).alloc (Nat.le_refl _) _
  have HB := Lib.hid (Blk.new w 71 #[.int .i64 first, .slice A n cap, .int .i64 rate])
  have hcT := Lib.hid (Blk.agg (cs := [.int .i64 first, .slice A n cap, .int .i64 rate]) HB.out 0 [.int .i64 first, .slice A n cap] rfl)
  go_enter Tryz.func48, Tryz.ntmps48
  go_wp2_with (refine wpList_load_agg rfl 69 _ rfl ⟨w.heap.size, 0, none⟩ rfl [.int .i64 first, .slice A n cap] hcT.out _ Tryz.underlying69 rfl LawLT.size ?_)
  refine (szLifeTable_no first A n cap left _ hn h0 h1 h2').mono ?_
  rintro e w1 ⟨rfl, hb1⟩
  go_wp2
  go_ret
  exact ⟨rfl, hbw.trans (hb1.mono hbw.size)⟩


set_option maxHeartbeats 2000000 in
theorem toLifeTable_any (first : Int) (A : Option Addr) (n cap : Nat) (xs : List Int) (w : World) (hn : n ≤ 1048576) (hl : xs.length = n) (hX : Rd w w.heap.size A 1 (intRows xs)) :
    Calls Tryz.prog 121 #[.agg #[.int .i64 first, .slice A n cap]] w fun e w' => ∃ g, e = .returned (.agg #[.int .i64 first, .slice (some ⟨g, 0, none⟩) n n]) ∧ Res w.heap.size w' 2 1 (some ⟨g, 0, none⟩) n n (intRows xs) ∧ Below w.heap.size w w' := by
  have hbw : Below w.heap.size w (((w.alloc (.cells #[.int .i64 first, .slice A n cap] 69)).alloc (.cells #[.int .i64 0, .slice none 0 0] 26)).alloc (.cells #[.int .i64 first, .slice none 0 0] 26)) := (((Below.refl _ w).alloc (Nat.le_refl _) _).alloc (by simp) _).alloc (by simp <;> omega) _
  have HO := Lib.hid (Blk.new ((w.alloc (.cells #[.int .i64 first, .slice A n cap] 69)).alloc (.cells #[.int .i64 0, .slice none 0 0] 26)) 26 #[.int .i64 first, .slice none 0 0])
  have HC := Lib.hid ((Blk.new (w.alloc (.cells #[.int .i64 first, .slice A n cap] 69)) 26 #[.int .i64 0, .slice none 0 0]).alloc (.cells #[.int .i64 first, .slice none 0 0] 26))
  simp only [World.size_alloc] at HO HC
  have HX := Lib.hid (hX.past hbw); clear hX
  have HL := Lib.hid hl; clear hl
  go_enter Tryz.func121, Tryz.ntmps121
  go_wp2_with fail
  refine (toInt64S_any A n cap xs _ hn HL.out HX.out).mono ?_
  rintro e w1 ⟨g, rfl, hR, hb1⟩
  have HR := Lib.hid hR; clear hR
  have HO1 := Lib.hid (HO.out.below' hb1)
  have HC1 := Lib.hid (HC.out.below' hb1)
  have hs1 : w.heap.size + 1 + 1 + 1 ≤ w1.heap.size := by have := hb1.size; simpa using this
  have o1 : w1.cell? ⟨w.heap.size + 1 + 1, 1, none⟩ = some (.slice none 0 0) := HO1.out.cell 1
  have of1 : w1.frozen? ⟨w.heap.size + 1 + 1, 1, none⟩ = false := HO1.out.frozen 1
  have HO2 := Lib.hid (show Blk (w1.setCell ⟨w.heap.size + 1 + 1, 1, none⟩ (.slice (some ⟨g, 0, none⟩) n n)) (w.heap.size + 1 + 1) 26 #[.int .i64 first, .slice (some ⟨g, 0, none⟩) n n] by simpa using HO1.out.set_ 1 (.slice (some ⟨g, 0, none⟩) n n))
  have HC2 := Lib.hid (HC1.out.far (p := ⟨w.heap.size + 1 + 1, 1, none⟩) (by simp) (.slice (some ⟨g, 0, none⟩) n n))
  have hcO := Lib.hid (Blk.agg (cs := [.int .i64 first, .slice (some ⟨g, 0, none⟩) n n]) HO2.out 0 [.int .i64 first, .slice (some ⟨g, 0, none⟩) n n] rfl)
  have H1 : Hid (∀ v ∈ ([.int .i64 first, .slice (some ⟨g, 0, none⟩) n n] : List Value), v.oneCell' = true) := Lib.hid (by simp [Value.oneCell'])
  have hb01 := hbw.trans (hb1.mono hbw.size)
  have hb02 := Lib.hid (hb01.setCell (p := ⟨w.heap.size + 1 + 1, 1, none⟩) (by simp <;> omega) (.slice (some ⟨g, 0, none⟩) n n))
  go_wp2_with (first | (refine wpList_load_agg rfl 26 _ rfl ⟨w.heap.size + 1 + 1, 0, none⟩ rfl [.int .i64 first, .slice (some ⟨g, 0, none⟩) n n] hcO.out _ Tryz.underlying26 rfl Tab.size ?_) | (refine wpList_store_agg rfl 26 _ _ rfl (w.heap.size + 1) 0 [.int .i64 first, .slice (some ⟨g, 0, none⟩) n n] rfl rfl 26 #[.int .i64 0, .slice none 0 0] HC2.out Tab.size (by simp) H1.out ?_))
  intro w6 hR6 hg6 _
  have hR6' : Blk w6 (w.heap.size + 1) 26 #[.int .i64 first, .slice (some ⟨g, 0, none⟩) n n] := hR6
  have r0 : w6.cell? ⟨w.heap.size + 1, 0, none⟩ = some (.int .i64 first) := hR6'.cell 0
  have r1 : w6.cell? ⟨w.heap.size + 1, 1, none⟩ = some (.slice (some ⟨g, 0, none⟩) n n) := hR6'.cell 1
  go_wp2
  refine bodyPost_ret (v := .agg #[.int .i64 first, .slice (some ⟨g, 0, none⟩) n n]) (by simp [results, Tryz.results121, go_sem, r0, r1]) rfl ⟨g, rfl, ?_, hb02.out.grown hg6 hb02.out.size (fun k hk => by injection hk with hk; omega)⟩
  have HRr := HR.out
  simp only [World.size_alloc] at HRr
  refine Res.more (B := w.heap.size + 1 + 1 + 1) (HRr.keep fun g' hg' => ?_) (by omega)
  have hlt := HRr.lt hg'
  refine (hg6.block g' (by simpa [World.setCell] using hlt.2) (by intro h; injection h with h; omega)).trans ?_
  exact Below.heap_setCell _ _ _ _ (by simp; omega)

set_option maxHeartbeats 2000000 in
theorem eqLifeTable_any (first : Int) (A A' : Option Addr) (n cap cap' : Nat) (xs : List Int) (w : World) (hn : n ≤ 140737488355328) (hl : xs.length = n) (hX : Rd w w.heap.size A 1 (intRows xs)) (hX' : Rd w w.heap.size A' 1 (intRows xs)) :
    Calls Tryz.prog 127 #[.agg #[.int .i64 first, .slice A n cap], .agg #[.int .i64 first, .slice A' n cap']] w fun e w' => e = .returned (.bool true) ∧ Below w.heap.size w w' := by
  have hbw : Below w.heap.size w ((w.alloc (.cells #[.int .i64 first, .slice A n cap] 26)).alloc (.cells #[.int .i64 first, .slice A' n cap'] 26)) := ((Below.refl _ w).alloc (Nat.le_refl _) _).alloc (by simp) _
  have HX := Lib.hid (hX.past hbw); clear hX
  have HX' := Lib.hid (hX'.past hbw); clear hX'
  have HL := Lib.hid hl; clear hl
  go_enter Tryz.func127, Tryz.ntmps127
  go_wp2_with fail
  refine (eqInt64S_any A A' n cap cap' xs _ hn HL.out HX.out HX'.out).mono ?_
  rintro e w1 ⟨rfl, hb1⟩
  go_wp2
  go_ret
  exact ⟨rfl, hbw.trans (hb1.mono hbw.size)⟩


set_option maxHeartbeats 2000000 in
theorem eqBasis_any (b : Bas) (A A' : Option Addr) (n cap cap' : Nat) (w : World) (hn : n ≤ 140737488355328) (hB : BasT w A n cap b) (hB' : BasT w A' n cap' b) :
    Calls Tryz.prog 55 #[.agg #[.int .i64 b.first, .slice A n cap, .int .i64 b.rate], .agg #[.int .i64 b.first, .slice A' n cap', .int .i64 b.rate]] w fun e w' => e = .returned (.bool true) ∧ Below w.heap.size w w' := by
  have hbw : Below w.heap.size w ((w.alloc (.cells #[.int .i64 b.first, .slice A n cap, .int .i64 b.rate] 28)).alloc (.cells #[.int .i64 b.first, .slice A' n cap', .int .i64 b.rate] 28)) := ((Below.refl _ w).alloc (Nat.le_refl _) _).alloc (by simp) _
  have HX := Lib.hid (hB.past hbw).lives; clear hB
  have HX' := Lib.hid (hB'.past hbw).lives; clear hB'
  have HB := Lib.hid ((Blk.new w 28 #[.int .i64 b.first, .slice A n cap, .int .i64 b.rate]).alloc (.cells #[.int .i64 b.first, .slice A' n cap', .int .i64 b.rate] 28))
  have HD := Lib.hid (Blk.new (w.alloc (.cells #[.int .i64 b.first, .slice A n cap, .int .i64 b.rate] 28)) 28 #[.int .i64 b.first, .slice A' n cap', .int .i64 b.rate])
  simp only [World.size_alloc] at HD
  have hcT := Lib.hid (Blk.agg (cs := [.int .i64 b.first, .slice A n cap, .int .i64 b.rate]) HB.out 0 [.int .i64 b.first, .slice A n cap] rfl)
  have hcU := Lib.hid (Blk.agg (cs := [.int .i64 b.first, .slice A' n cap', .int .i64 b.rate]) HD.out 0 [.int .i64 b.first, .slice A' n cap'] rfl)
  go_enter Tryz.func55, Tryz.ntmps55
  go_wp2_with (first | (refine wpList_load_agg rfl 26 _ rfl ⟨w.heap.size, 0, none⟩ rfl [.int .i64 b.first, .slice A n cap] hcT.out _ Tryz.underlying26 rfl Tab.size ?_) | (refine wpList_load_agg rfl 26 _ rfl ⟨w.heap.size + 1, 0, none⟩ rfl [.int .i64 b.first, .slice A' n cap'] hcU.out _ Tryz.underlying26 rfl Tab.size ?_))
  refine (eqLifeTable_any b.first A A' n cap cap' b.lives _ hn HX.out.len HX.out.rd HX'.out.rd).mono ?_
  rintro e w1 ⟨rfl, hb1⟩
  have HB1 := Lib.hid (HB.out.below' hb1); have HD1 := Lib.hid (HD.out.below' hb1)
  have c2 : w1.cell? ⟨w.heap.size, 2, none⟩ = some (.int .i64 b.rate) := HB1.out.cell 2
  have d2 : w1.cell? ⟨w.heap.size + 1, 2, none⟩ = some (.int .i64 b.rate) := HD1.out.cell 2
  go_wp2
  go_ret
  exact ⟨rfl, hbw.trans (hb1.mono hbw.size)⟩


set_option maxHeartbeats 2000000 in
theorem toBasis_any (b : Bas) (A : Option Addr) (n cap : Nat) (w : World) (hB : LiesT w A n b.lives) :
    Calls Tryz.prog 51 #[.agg #[.int .i64 b.first, .slice A n cap, .int .i64 b.rate]] w fun e w' => ∃ g, e = .returned (.agg #[.int .i64 b.first, .slice (some ⟨g, 0, none⟩) n n, .int .i64 b.rate]) ∧ Res w.heap.size w' 2 1 (some ⟨g, 0, none⟩) n n (intRows b.lives) ∧ Below w.heap.size w w' := by
  have hbw : Below w.heap.size w (((w.alloc (.cells #[.int .i64 b.first, .slice A n cap, .int .i64 b.rate] 71)).alloc (.cells #[.int .i64 0, .slice none 0 0, .int .i64 0] 28)).alloc (.cells #[.int .i64 0, .slice none 0 0, .int .i64 0] 28)) := (((Below.refl _ w).alloc (Nat.le_refl _) _).alloc (by simp) _).alloc (by simp <;> omega) _
  have HA := Lib.hid (((Blk.new w 71 #[.int .i64 b.first, .slice A n cap, .int .i64 b.rate]).alloc (.cells #[.int .i64 0, .slice none 0 0, .int .i64 0] 28)).alloc (.cells #[.int .i64 0, .slice none 0 0, .int .i64 0] 28))
  have HO := Lib.hid (Blk.new ((w.alloc (.cells #[.int .i64 b.first, .slice A n cap, .int .i64 b.rate] 71)).alloc (.cells #[.int .i64 0, .slice none 0 0, .int .i64 0] 28)) 28 #[.int .i64 0, .slice none 0 0, .int .i64 0])
  have HC := Lib.hid ((Blk.new (w.alloc (.cells #[.int .i64 b.first, .slice A n cap, .int .i64 b.rate] 71)) 28 #[.int .i64 0, .slice none 0 0, .int .i64 0]).alloc (.cells #[.int .i64 0, .slice none 0 0, .int .i64 0] 28))
  simp only [World.size_alloc] at HO HC
  have HX := Lib.hid (hB.past hbw); clear hB
  have hcT := Lib.hid (Blk.agg (cs := [.int .i64 b.first, .slice A n cap, .int .i64 b.rate]) HA.out 0 [.int .i64 b.first, .slice A n cap] rfl)
  go_enter Tryz.func51, Tryz.ntmps51
  go_wp2_with (refine wpList_load_agg rfl 69 _ rfl ⟨w.heap.size, 0, none⟩ rfl [.int .i64 b.first, .slice A n cap] hcT.out _ Tryz.underlying69 rfl LawLT.size ?_)
  refine (toLifeTable_any b.first A n cap b.lives _ HX.out.small HX.out.len HX.out.rd).mono ?_
  rintro e w1 ⟨g, rfl, hR, hb1⟩
  have HR := Lib.hid hR; clear hR
  have HA1 := Lib.hid (HA.out.below' hb1)
  have HO1 := Lib.hid (HO.out.below' hb1)
  have HC1 := Lib.hid (HC.out.below' hb1)
  have hs1 : w.heap.size + 1 + 1 + 1 ≤ w1.heap.size := by have := hb1.size; simpa using this
  have hb01 := hbw.trans (hb1.mono hbw.size)
  have H1 : Hid (∀ v ∈ ([.int .i64 b.first, .slice (some ⟨g, 0, none⟩) n n] : List Value), v.oneCell' = true) := Lib.hid (by simp [Value.oneCell'])
  go_wp2_with (refine wpList_store_agg rfl 26 _ _ rfl (w.heap.size + 1 + 1) 0 [.int .i64 b.first, .slice (some ⟨g, 0, none⟩) n n] rfl rfl 28 #[.int .i64 0, .slice none 0 0, .int .i64 0] HO1.out Tab.size (by simp) H1.out ?_)
  intro w2 hR2 hg2 _
  have HO2 := Lib.hid (show Blk w2 (w.heap.size + 1 + 1) 28 #[.int .i64 b.first, .slice (some ⟨g, 0, none⟩) n n, .int .i64 0] from hR2); clear hR2
  have HA2 := Lib.hid (HA1.out.grown hg2 (by simp <;> omega))
  have HC2 := Lib.hid (HC1.out.grown hg2 (by simp <;> omega))
  have a2 : w2.cell? ⟨w.heap.size, 2, none⟩ = some (.int .i64 b.rate) := HA2.out.cell 2
  have o2 : w2.cell? ⟨w.heap.size + 1 + 1, 2, none⟩ = some (.int .i64 0) := HO2.out.cell 2
  have of2 : w2.frozen? ⟨w.heap.size + 1 + 1, 2, none⟩ = false := HO2.out.frozen 2
  have HO3 := Lib.hid (show Blk (w2.setCell ⟨w.heap.size + 1 + 1, 2, none⟩ (.int .i64 b.rate)) (w.heap.size + 1 + 1) 28 #[.int .i64 b.first, .slice (some ⟨g, 0, none⟩) n n, .int .i64 b.rate] by simpa using HO2.out.set_ 2 (.int .i64 b.rate))
  have HC3 := Lib.hid (HC2.out.far (p := ⟨w.heap.size + 1 + 1, 2, none⟩) (by simp) (.int .i64 b.rate))
  have hcO := Lib.hid (Blk.agg (cs := [.int .i64 b.first, .slice (some ⟨g, 0, none⟩) n n, .int .i64 b.rate]) HO3.out 0 [.int .i64 b.first, .slice (some ⟨g, 0, none⟩) n n, .int .i64 b.rate] rfl)
  have H3 : Hid (∀ v ∈ ([.int .i64 b.first, .slice (some ⟨g, 0, none⟩) n n, .int .i64 b.rate] : List Value), v.oneCell' = true) := Lib.hid (by simp [Value.oneCell'])
  have hg2' := Lib.hid hg2
  have hb02 := hb01.grown hg2 hb01.size (fun k hk => by injection hk with hk; omega)
  have hb03 := Lib.hid (hb02.setCell (p := ⟨w.heap.size + 1 + 1, 2, none⟩) (by simp <;> omega) (.int .i64 b.rate))
  go_wp2_with (first | (refine wpList_load_agg rfl 28 _ rfl ⟨w.heap.size + 1 + 1, 0, none⟩ rfl [.int .i64 b.first, .slice (some ⟨g, 0, none⟩) n n, .int .i64 b.rate] hcO.out _ Tryz.underlying28 rfl Bas.size ?_) | (refine wpList_store_agg rfl 28 _ _ rfl (w.heap.size + 1) 0 [.int .i64 b.first, .slice (some ⟨g, 0, none⟩) n n, .int .i64 b.rate] rfl rfl 28 #[.int .i64 0, .slice none 0 0, .int .i64 0] HC3.out Bas.size (by simp) H3.out ?_))
  intro w6 hR6 hg6 _
  have hR6' : Blk w6 (w.heap.size + 1) 28 #[.int .i64 b.first, .slice (some ⟨g, 0, none⟩) n n, .int .i64 b.rate] := hR6
  have r0 : w6.cell? ⟨w.heap.size + 1, 0, none⟩ = some (.int .i64 b.first) := hR6'.cell 0
  have r1 : w6.cell? ⟨w.heap.size + 1, 1, none⟩ = some (.slice (some ⟨g, 0, none⟩) n n) := hR6'.cell 1
  have r2 : w6.cell? ⟨w.heap.size + 1, 2, none⟩ = some (.int .i64 b.rate) := hR6'.cell 2
  go_wp2
  refine bodyPost_ret (v := .agg #[.int .i64 b.first, .slice (some ⟨g, 0, none⟩) n n, .int .i64 b.rate]) (by simp [results, Tryz.results51, go_sem, r0, r1, r2]) rfl ⟨g, rfl, ?_, hb03.out.grown hg6 hb03.out.size (fun k hk => by injection hk with hk; omega)⟩
  have HRr := HR.out
  simp only [World.size_alloc] at HRr
  refine Res.more (B := w.heap.size + 1 + 1 + 1) (HRr.keep fun g' hg' => ?_) (by omega)
  have hlt := HRr.lt hg'
  have hsz2 := hg2'.out.size
  refine (hg6.block g' (by simp [World.setCell]; omega) (by intro h; injection h with h; omega)).trans ?_
  refine (Below.heap_setCell _ _ _ _ (by simp; omega)).trans ?_
  exact hg2'.out.block g' hlt.2 (by intro h; injection h with h; omega)

end Go.Proofs.YtbjdbpdgacfcpaaGreat
end

/- How a basis among a law's arguments is opened. No condition. -/
section
namespace Go.Proofs.YtbjdbpdgacfcpaaGreat
open Go.ChangeShapes Go.WideShapes Go.ChangeAt Go.RowKit Go.Deep

theorem two_of {α : Type} {cs : List α} (h : cs.length = 2) : ∃ a b, cs = [a, b] := by match cs, h with | [a, b], _ => exact ⟨a, b, rfl⟩
theorem three_of {α : Type} {cs : List α} (h : cs.length = 3) : ∃ a b c, cs = [a, b, c] := by match cs, h with | [a, b, c], _ => exact ⟨a, b, c, rfl⟩
section
variable {H : Type} {enc : TypeId × Value → H} {w : World} {base : Nat} {spare : Nat → Bool} {held : Bool}
theorem slice_shape {P : Program} {t e : TypeId} {fuel : Nat} {cs : List Value} {x : DataW H × List MemPlace} (ht : P.underlying t = some (.slice e))
    (h : DataW.trod enc P w base spare held fuel t cs = some x) : ∃ A n cap, cs = [.slice A n cap] := by
  rcases open_slice ht h with ⟨h0, _⟩ | ⟨a, len, cap', m', n', D, Pl, hcs, _⟩
  · exact ⟨_, _, _, h0⟩
  · exact ⟨_, _, _, hcs⟩
theorem some_of_get {α : Type} {xs : List α} {i : Nat} {o : Option α} (hi : i < xs.length) (h : o = xs[i]?) : ∃ y, o = some y := by
  rw [List.getElem?_eq_getElem hi] at h
  exact ⟨_, h⟩
set_option maxRecDepth 100000 in
theorem open_table {fuel : Nat} {cs : List Value} {x : DataW H × List MemPlace} (h : DataW.trod enc Tryz.prog w base spare held fuel 69 cs = some x) :
    ∃ (first : Int) (A : Option Addr) (n cap : Nat) (xs : List Int), cs = [.int .i64 first, .slice A n cap] ∧ n ≤ maxLen ∧ xs.length = n ∧ Rd w w.heap.size A 1 (intRows xs) ∧ (∀ x ∈ xs, In64 x) ∧ In64 first := by
  obtain ⟨ys, m, _, _, hl, hyl, hf⟩ := DataW.trod_struct Tryz.underlying69 h
  have hl2 : cs.length = 2 := hl.trans (by kernel_rfl)
  have hy2 : ys.length = 2 := hyl.trans rfl
  have g0 := hf 0 _ rfl
  have g1 := hf 1 _ rfl
  obtain ⟨y0, e0⟩ := some_of_get (by omega) g0
  obtain ⟨y1, e1⟩ := some_of_get (by omega) g1
  obtain ⟨z, hz, _, wz⟩ := DataW.trod_int Tryz.underlying2 e0
  obtain ⟨A, n, cap, hs⟩ := slice_shape Tryz.underlying24 e1
  rw [hs] at e1
  obtain ⟨hn, rows, hrl, hrw, hRd⟩ := open_rows Tryz.underlying24 (by kernel_rfl) (by decide) (intCells_int Tryz.underlying2) e1
  obtain ⟨xs, hxl, hxr, hxf⟩ := ints_of_nums rows hrw
  rw [← hxr] at hRd
  refine ⟨z, A, n, cap, xs, ?_, hn, hxl.trans hrl, hRd, hxf, in64_of_wf wz⟩
  obtain ⟨a, b, rfl⟩ : ∃ a b, cs = [a, b] := two_of hl2
  have k1 : Tryz.prog.cellsOf 2 = 1 := by kernel_rfl
  have k2 : Tryz.prog.cellsOf 24 = 1 := by kernel_rfl
  have hz' : List.take 1 [a, b] = [.int .i64 z] := by rw [← k1]; exact hz
  have hs' : List.take 1 [b] = [.slice A n cap] := by rw [← k2]; exact hs
  simp only [List.take_succ_cons, List.take_zero, List.cons.injEq, and_true] at hz' hs'
  rw [hz', hs']
set_option maxRecDepth 100000 in
theorem open_basis {r : Reach} {b0 : Nat} {v : Value} {d : DataW H} {p : List MemPlace} (hv : Value.okWide Tryz.prog w r b0 71 v) (h : DataW.Trod enc Tryz.prog w base spare held 71 v d p) :
    ∃ (b : Bas) (A : Option Addr) (n cap : Nat), v = .agg #[.int .i64 b.first, .slice A n cap, .int .i64 b.rate] ∧ n ≤ maxLen ∧ b.lives.length = n ∧ Rd w w.heap.size A 1 (intRows b.lives) ∧ (∀ x ∈ b.lives, In64 x) ∧ In64 b.first ∧ In64 b.rate := by
  obtain ⟨cs, rfl, _⟩ := okWide_struct Tryz.underlying71 hv
  obtain ⟨fuel, h⟩ := h
  obtain ⟨cs⟩ := cs
  simp only [Value.cells] at h
  obtain ⟨ys, m, _, _, hl, hyl, hf⟩ := DataW.trod_struct Tryz.underlying71 h
  have hl2 : cs.length = 3 := hl.trans (by kernel_rfl)
  have hy2 : ys.length = 2 := hyl.trans rfl
  have g0 := hf 0 _ rfl
  have g1 := hf 1 _ rfl
  obtain ⟨y0, e0⟩ := some_of_get (by omega) g0
  obtain ⟨y1, e1⟩ := some_of_get (by omega) g1
  obtain ⟨first, A, n, cap, xs, hs, hn, hxl, hR, hx, h1⟩ := open_table e0
  obtain ⟨z, hz, _, wz⟩ := DataW.trod_int Tryz.underlying2 e1
  obtain ⟨a, b, c, rfl⟩ : ∃ a b c, cs = [a, b, c] := three_of hl2
  have k1 : Tryz.prog.cellsOf 2 = 1 := by kernel_rfl
  have k2 : Tryz.prog.cellsOf 69 = 2 := by kernel_rfl
  have hs' : List.take 2 [a, b, c] = [.int .i64 first, .slice A n cap] := by rw [← k2]; exact hs
  have hz' : List.take 1 [c] = [.int .i64 z] := by rw [← k1]; exact hz
  simp only [List.take_succ_cons, List.take_zero, List.cons.injEq, and_true] at hz' hs'
  obtain ⟨rfl, rfl⟩ := hs'
  subst hz'
  exact ⟨⟨first, xs, z⟩, A, n, cap, rfl, hn, hxl, hR, hx, h1, in64_of_wf wz⟩
end
end Go.Proofs.YtbjdbpdgacfcpaaGreat
end

/- Bases and life tables among a law's arguments or results: how they lie, how they are opened, marked and held. No condition. -/
section
namespace Go.Proofs.YtbjdbpdgacfcpaaGreat
open Go.ChangeShapes Go.WideShapes Go.ChangeAt Go.RowKit Go.Deep

theorem LawBas.size : (Tryz.prog.info? 71).map (·.size) = some 3 := by kernel_rfl
theorem basT_of {w : World} {B g n : Nat} {b : Bas} (h : Res B w 2 1 (some ⟨g, 0, none⟩) n n (intRows b.lives)) (T : b.lives.length = n ∧ n ≤ 1048576 ∧ (∀ x ∈ b.lives, In64 x) ∧ In64 b.first ∧ In64 b.rate) : BasT w (some ⟨g, 0, none⟩) n n b :=
  ⟨⟨T.1, T.2.1, h.rd, T.2.2.1⟩, Nat.le_refl _, T.2.2.2.1, T.2.2.2.2⟩
theorem Res.cap_le {w : World} {B t sz n cap : Nat} {A : Option Addr} {rows : List (List Value)} (h : Res B w t sz A n cap rows) : n ≤ cap := by
  rcases h.own.2 with ⟨h1, h2⟩ | ⟨g, c, cur, e, _, _, hnc, _⟩
  · simp only [Value.slice.injEq] at h1; omega
  · simp only [Value.slice.injEq] at e; omega
theorem basT_res {w : World} {B n c : Nat} {A : Option Addr} {b : Bas} (h : Res B w 2 1 A n c (intRows b.lives)) (T : b.lives.length ≤ 1048576 ∧ (∀ x ∈ b.lives, In64 x) ∧ In64 b.first ∧ In64 b.rate) : BasT w A n c b := by
  have hl : b.lives.length = n := by have := h.len; rwa [intRows_length] at this
  exact ⟨⟨hl, by omega, h.rd, T.2.1⟩, h.cap_le, T.2.2.1, T.2.2.2⟩
theorem Turned.blk {w w' : World} {A : Option Addr} {n g t : Nat} {cs : Array Value} (h : Turned w w' A n) (hb : Blk w g t cs) (hne : ∀ k, A = some ⟨k, 0, none⟩ → g ≠ k) : Blk w' g t cs := by
  rcases h with h | ⟨_, k, e, hg⟩
  · subst h; exact hb
  · exact hb.grown hg (fun h => by injection h with h; exact hne k e h)
section
variable {H : Type} {enc : TypeId × Value → H} {w : World} {base : Nat} {spare : Nat → Bool} {held : Bool}
set_option maxRecDepth 100000 in
theorem open_ltable {r : Reach} {b0 : Nat} {v : Value} {d : DataW H} {p : List MemPlace} (hv : Value.okWide Tryz.prog w r b0 69 v) (h : DataW.Trod enc Tryz.prog w base spare held 69 v d p) :
    ∃ (f : Int) (A : Option Addr) (n cap : Nat) (xs : List Int), v = .agg #[.int .i64 f, .slice A n cap] ∧ n ≤ maxLen ∧ xs.length = n ∧ Rd w w.heap.size A 1 (intRows xs) ∧ (∀ x ∈ xs, In64 x) ∧ In64 f := by
  obtain ⟨cs, rfl, _⟩ := okWide_struct Tryz.underlying69 hv
  obtain ⟨fuel, h⟩ := h
  obtain ⟨cs⟩ := cs
  simp only [Value.cells] at h
  obtain ⟨f, A, n, cap, xs, hs, hn, hl, hR, hx, hf⟩ := open_table h
  subst hs
  exact ⟨f, A, n, cap, xs, rfl, hn, hl, hR, hx, hf⟩
end

theorem markLifeTable_at (B : Nat) (first : Int) (A : Option Addr) (n cap k0 : Nat) (k : Int) (rows : List (List Value)) (w : World) (hn : n ≤ 1048576) (hk0 : k0 ≤ 1000000000) (hR : Res B w 2 1 A n cap rows) (hk : k = (k0 : Int)) :
    Calls Tryz.prog 129 #[.agg #[.int .i64 first, .slice A n cap], .int .i64 k] w fun e' w' => e' = .returned (.int .i64 (k + n)) ∧ (∃ u, Below w.heap.size w u ∧ Turned u w' A n) ∧ Marked w' A n 1 k0 := by
  have hbw : Below w.heap.size w (w.alloc (.cells #[.int .i64 first, .slice A n cap] 26)) := (Below.refl _ w).alloc (Nat.le_refl _) _
  have HR := Lib.hid (hR.past hbw); clear hR
  have HK := Lib.hid hk; clear hk
  go_enter Tryz.func129, Tryz.ntmps129
  go_wp2_with fail
  refine (markInt64S_at B A n cap k0 k rows _ hn hk0 HR.out HK.out).mono ?_
  rintro e w1 ⟨rfl, ht, hM⟩
  have HM := Lib.hid hM; clear hM
  have HT := Lib.hid ht; clear ht
  go_wp2
  go_ret
  exact ⟨rfl, ⟨_, hbw, HT.out⟩, HM.out⟩
theorem markBasis_at (B : Nat) (first rate : Int) (A : Option Addr) (n cap k0 : Nat) (k : Int) (rows : List (List Value)) (w : World) (hn : n ≤ 1048576) (hk0 : k0 ≤ 1000000000) (hR : Res B w 2 1 A n cap rows) (hk : k = (k0 : Int)) :
    Calls Tryz.prog 57 #[.agg #[.int .i64 first, .slice A n cap, .int .i64 rate], .int .i64 k] w fun e' w' => e' = .returned (.int .i64 (k + n)) ∧ (∃ u, Below w.heap.size w u ∧ Turned u w' A n) ∧ Marked w' A n 1 k0 := by
  have hbw : Below w.heap.size w (w.alloc (.cells #[.int .i64 first, .slice A n cap, .int .i64 rate] 28)) := (Below.refl _ w).alloc (Nat.le_refl _) _
  have HB := Lib.hid (Blk.new w 28 #[.int .i64 first, .slice A n cap, .int .i64 rate])
  have hcT := Lib.hid (Blk.agg (cs := [.int .i64 first, .slice A n cap, .int .i64 rate]) HB.out 0 [.int .i64 first, .slice A n cap] rfl)
  have HR := Lib.hid (hR.past hbw); clear hR
  have HK := Lib.hid hk; clear hk
  go_enter Tryz.func57, Tryz.ntmps57
  go_wp2_with (refine wpList_load_agg rfl 26 _ rfl ⟨w.heap.size, 0, none⟩ rfl [.int .i64 first, .slice A n cap] hcT.out _ Tryz.underlying26 rfl Tab.size ?_)
  refine (markLifeTable_at B first A n cap k0 k rows _ hn hk0 HR.out HK.out).mono ?_
  rintro e w1 ⟨rfl, ⟨u, hu, ht⟩, hM⟩
  have HM := Lib.hid hM; clear hM
  have HT := Lib.hid ht; clear ht
  go_wp2
  go_ret
  exact ⟨rfl, ⟨u, hbw.trans (hu.mono hbw.size), HT.out⟩, HM.out⟩
end Go.Proofs.YtbjdbpdgacfcpaaGreat
end
