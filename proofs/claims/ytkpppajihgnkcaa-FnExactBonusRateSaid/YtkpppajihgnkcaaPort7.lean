/- The rate of a bonus: the program's and the reference's contracts. -/
import Derived.Test.YtkpppajihgnkcaaPort4
namespace Go.Proofs.Ytkpppajihgnkcaa
open Go.RowKit Go.BigFrame

def rateP (b : Bas) (xs : List Holding) (a : Int) : Int × Int :=
  if portB b xs = true then (if inR a 0 1000000000 = true then (if (resL b xs).sum = 0 then (0, 5) else ((1000 * a).tdiv (resL b xs).sum, 0)) else (0, 2)) else (0, 1)
theorem resL_pos {b : Bas} {xs : List Holding} (hl : xs.length ≤ 30) (hh : ∀ x ∈ xs, holdB b x = true) : 0 ≤ (resL b xs).sum ∧ (resL b xs).sum ≤ 100000001000000 * (30 : Nat) :=
  (sums_of (n := 30) (hi := 100000001000000) (by omega) (by simpa [resL] using hl) (fun v hv => by
    obtain ⟨x, hx, rfl⟩ := List.mem_map.1 hv
    exact resV_bound (hh x hx)) (by omega)).2
theorem rate_bound {a t : Int} (h0 : 0 ≤ a) (h1 : a ≤ 1000000000) (ht : 0 < t) : 0 ≤ (1000 * a).tdiv t ∧ (1000 * a).tdiv t ≤ 1000000000000 := by
  rw [Int.tdiv_eq_ediv_of_nonneg (by omega)]
  have h2 : 0 ≤ 1000 * a / t := Int.ediv_nonneg (by omega) (by omega)
  have h3 : 1000 * a / t ≤ 1000 * a := Int.ediv_le_self _ (by omega)
  omega

set_option maxHeartbeats 4000000 in
theorem spec_BonusRate_any (b : Bas) (A : Option Addr) (n cap : Nat) (H : Option Addr) (m hcap : Nat) (xs : List Holding) (w : World) (hB : BasT w A n cap b) (hl : xs.length = m) (hm : m ≤ 1048576) (hX : Rd w w.heap.size H 7 (holdingRows xs)) (hf : ∀ x ∈ xs, x.fits) (a : Int) (_ha : In64 a) :
    Calls Try.prog 42 #[.agg #[.int .i64 b.first, .slice A n cap, .int .i64 b.rate], .slice H m hcap, .int .i64 a] w fun e w' => e = .returned (.tuple #[.int .i64 (rateP b xs a).1, .int .i64 (rateP b xs a).2]) ∧ Below w.heap.size w w' := by
  have hbw : Below w.heap.size w (w.alloc (.cells #[.int .i64 b.first, .slice A n cap, .int .i64 b.rate] 39)) := (Below.refl _ w).alloc (Nat.le_refl _) _
  have HB := Lib.hid (Blk.new w 39 #[.int .i64 b.first, .slice A n cap, .int .i64 b.rate])
  have HBT := Lib.hid (hB.past hbw); clear hB
  have HX := Lib.hid (hX.past hbw); clear hX
  have HL := Lib.hid hl; clear hl
  have HF := Lib.hid hf; clear hf
  have hcB0 := Lib.hid (Blk.agg (cs := [.int .i64 b.first, .slice A n cap, .int .i64 b.rate]) HB.out 0 [.int .i64 b.first, .slice A n cap, .int .i64 b.rate] rfl)
  cases hp : portB b xs
  · have Q := Lib.hid (show rateP b xs a = (0, 1) by simp [rateP, hp])
    have QT := Lib.hid (show totP b xs = (0, 1) by simp [totP, hp])
    go_enter Try.func42, Try.ntmps42
    go_wp2_with (refine wpList_load_agg rfl 39 _ rfl ⟨w.heap.size, 0, none⟩ rfl [.int .i64 b.first, .slice A n cap, .int .i64 b.rate] hcB0.out _ Try.underlying39 rfl Bas.size ?_)
    refine (spec_TotalReserve_any b A n cap H m hcap xs _ HBT.out HL.out hm HX.out HF.out).mono ?_
    rw [QT.out]
    rintro e w1 ⟨rfl, hb1⟩
    go_wp2_with (first | (go_at_call 74; refine (spec_l19Amount_any _ _).mono ?_; rintro e w' ⟨rfl, rfl⟩))
    go_ret2
    exact ⟨by rw [Q.out]; rfl, hbw.trans (hb1.mono hbw.size)⟩
  obtain ⟨h30, hh⟩ := port_hold hp
  obtain ⟨s0, s1⟩ := resL_pos h30 hh
  have HS := Lib.hid (resL_sums h30 hh)
  have HH := Lib.hid hh; clear hh
  have hm30 : m ≤ 30 := by have := HL.out; omega
  obtain ⟨T, hT0⟩ : ∃ T, (resL b xs).sum = T := ⟨_, rfl⟩
  have hT := Lib.hid hT0
  rw [hT0] at s0 s1
  clear hT0
  have QT := Lib.hid (show totP b xs = (T, 0) by simp [totP, hp, hT.out])
  cases hi : inR a 0 1000000000
  · have Q := Lib.hid (show rateP b xs a = (0, 2) by simp [rateP, hp, hi])
    go_enter Try.func42, Try.ntmps42
    go_wp2_with (refine wpList_load_agg rfl 39 _ rfl ⟨w.heap.size, 0, none⟩ rfl [.int .i64 b.first, .slice A n cap, .int .i64 b.rate] hcB0.out _ Try.underlying39 rfl Bas.size ?_)
    refine (spec_TotalReserve_any b A n cap H m hcap xs _ HBT.out HL.out hm HX.out HF.out).mono ?_
    rw [QT.out]
    rintro e w1 ⟨rfl, hb1⟩
    go_wp2_with (first | (go_at_call 74; refine (spec_l19Amount_any _ _).mono ?_; rintro e w' ⟨rfl, rfl⟩))
    go_ret2
    exact ⟨by rw [Q.out]; rfl, hbw.trans (hb1.mono hbw.size)⟩
  obtain ⟨a0, a1⟩ := inR_true.1 hi
  by_cases ht : T = 0
  · have Q := Lib.hid (show rateP b xs a = (0, 5) by simp [rateP, hp, hi, hT.out, ht])
    have HM := Lib.hid (Int.mul_comm a 1000)
    have hz : (T == 0) = true := by simp [ht]
    clear ht
    go_enter Try.func42, Try.ntmps42
    go_wp2_with (refine wpList_load_agg rfl 39 _ rfl ⟨w.heap.size, 0, none⟩ rfl [.int .i64 b.first, .slice A n cap, .int .i64 b.rate] hcB0.out _ Try.underlying39 rfl Bas.size ?_)
    refine (spec_TotalReserve_any b A n cap H m hcap xs _ HBT.out HL.out hm HX.out HF.out).mono ?_
    rw [QT.out]
    rintro e w1 ⟨rfl, hb1⟩
    go_wp2_with (first | (go_at_call 74; refine (spec_l19Amount_any _ _).mono ?_; rintro e w' ⟨rfl, rfl⟩))
    go_ret2
    exact ⟨by rw [Q.out]; rfl, hbw.trans (hb1.mono hbw.size)⟩
  · have Q := Lib.hid (show rateP b xs a = ((1000 * a).tdiv T, 0) by simp [rateP, hp, hi, hT.out, ht])
    have HM := Lib.hid (Int.mul_comm a 1000)
    have hz : (T == 0) = false := by simp [ht]
    obtain ⟨r0, r1⟩ := rate_bound a0 a1 (show 0 < T by omega)
    have r2 := r0; have r3 := r1
    rw [Int.mul_comm] at r2 r3
    go_enter Try.func42, Try.ntmps42
    go_wp2_with (refine wpList_load_agg rfl 39 _ rfl ⟨w.heap.size, 0, none⟩ rfl [.int .i64 b.first, .slice A n cap, .int .i64 b.rate] hcB0.out _ Try.underlying39 rfl Bas.size ?_)
    refine (spec_TotalReserve_any b A n cap H m hcap xs _ HBT.out HL.out hm HX.out HF.out).mono ?_
    rw [QT.out]
    rintro e w1 ⟨rfl, hb1⟩
    go_wp2_with (first | (go_at_call 74; refine (spec_l19Amount_any _ _).mono ?_; rintro e w' ⟨rfl, rfl⟩))
    go_ret2
    exact ⟨by rw [Q.out]; rfl, hbw.trans (hb1.mono hbw.size)⟩

set_option maxHeartbeats 4000000 in
theorem impl_BonusRate_any (b : Bas) (A : Option Addr) (n cap : Nat) (H : Option Addr) (m hcap : Nat) (xs : List Holding) (w : World) (hB : BasT w A n cap b) (hl : xs.length = m) (hm : m ≤ 1048576) (hX : Rd w w.heap.size H 7 (holdingRows xs)) (hf : ∀ x ∈ xs, x.fits) (a : Int) (_ha : In64 a) :
    Calls Try.prog 43 #[.agg #[.int .i64 b.first, .slice A n cap, .int .i64 b.rate], .slice H m hcap, .int .i64 a] w fun e w' => e = .returned (.tuple #[.int .i64 (rateP b xs a).1, .int .i64 (rateP b xs a).2]) ∧ Below w.heap.size w w' := by
  have hbw : Below w.heap.size w (w.alloc (.cells #[.int .i64 b.first, .slice A n cap, .int .i64 b.rate] 39)) := (Below.refl _ w).alloc (Nat.le_refl _) _
  have HB := Lib.hid (Blk.new w 39 #[.int .i64 b.first, .slice A n cap, .int .i64 b.rate])
  have HBT := Lib.hid (hB.past hbw); clear hB
  have HX := Lib.hid (hX.past hbw); clear hX
  have HL := Lib.hid hl; clear hl
  have HF := Lib.hid hf; clear hf
  have hcB0 := Lib.hid (Blk.agg (cs := [.int .i64 b.first, .slice A n cap, .int .i64 b.rate]) HB.out 0 [.int .i64 b.first, .slice A n cap, .int .i64 b.rate] rfl)
  cases hp : portB b xs
  · have Q := Lib.hid (show rateP b xs a = (0, 1) by simp [rateP, hp])
    have QT := Lib.hid (show totP b xs = (0, 1) by simp [totP, hp])
    go_enter Try.func43, Try.ntmps43
    go_wp2_with (refine wpList_load_agg rfl 39 _ rfl ⟨w.heap.size, 0, none⟩ rfl [.int .i64 b.first, .slice A n cap, .int .i64 b.rate] hcB0.out _ Try.underlying39 rfl Bas.size ?_)
    refine (impl_IsPortfolio_any b A n cap H m hcap xs _ HBT.out HL.out hm HX.out HF.out).mono ?_
    rw [hp]
    rintro e w1 ⟨rfl, hb1⟩
    have HBT1 := Lib.hid (HBT.out.past hb1)
    have HX1 := Lib.hid (HX.out.past hb1)
    have hb01 := hbw.trans (hb1.mono hbw.size)
    have hcB1 := Lib.hid (Blk.agg (cs := [.int .i64 b.first, .slice A n cap, .int .i64 b.rate]) (HB.out.below' hb1) 0 [.int .i64 b.first, .slice A n cap, .int .i64 b.rate] rfl)
    go_wp2
    go_ret2
    exact ⟨by rw [Q.out]; rfl, hb01⟩
  obtain ⟨h30, hh⟩ := port_hold hp
  obtain ⟨s0, s1⟩ := resL_pos h30 hh
  have HS := Lib.hid (resL_sums h30 hh)
  have HH := Lib.hid hh; clear hh
  have hm30 : m ≤ 30 := by have := HL.out; omega
  obtain ⟨T, hT0⟩ : ∃ T, (resL b xs).sum = T := ⟨_, rfl⟩
  have hT := Lib.hid hT0
  rw [hT0] at s0 s1
  clear hT0
  have QT := Lib.hid (show totP b xs = (T, 0) by simp [totP, hp, hT.out])
  cases hi : inR a 0 1000000000
  · have Q := Lib.hid (show rateP b xs a = (0, 2) by simp [rateP, hp, hi])
    go_enter Try.func43, Try.ntmps43
    go_wp2_with (refine wpList_load_agg rfl 39 _ rfl ⟨w.heap.size, 0, none⟩ rfl [.int .i64 b.first, .slice A n cap, .int .i64 b.rate] hcB0.out _ Try.underlying39 rfl Bas.size ?_)
    refine (impl_IsPortfolio_any b A n cap H m hcap xs _ HBT.out HL.out hm HX.out HF.out).mono ?_
    rw [hp]
    rintro e w1 ⟨rfl, hb1⟩
    have HBT1 := Lib.hid (HBT.out.past hb1)
    have HX1 := Lib.hid (HX.out.past hb1)
    have hb01 := hbw.trans (hb1.mono hbw.size)
    have hcB1 := Lib.hid (Blk.agg (cs := [.int .i64 b.first, .slice A n cap, .int .i64 b.rate]) (HB.out.below' hb1) 0 [.int .i64 b.first, .slice A n cap, .int .i64 b.rate] rfl)
    go_wp2_with (first | (go_at_call 78; refine (impl_isAmount_any _ _).mono ?_; rintro e w' ⟨rfl, rfl⟩))
    go_ret2
    exact ⟨by rw [Q.out]; rfl, hb01⟩
  obtain ⟨a0, a1⟩ := inR_true.1 hi
  by_cases ht : T = 0
  · have Q := Lib.hid (show rateP b xs a = (0, 5) by simp [rateP, hp, hi, hT.out, ht])
    have HM := Lib.hid (Int.mul_comm a 1000)
    have hz : (T == 0) = true := by simp [ht]
    clear ht
    go_enter Try.func43, Try.ntmps43
    go_wp2_with (refine wpList_load_agg rfl 39 _ rfl ⟨w.heap.size, 0, none⟩ rfl [.int .i64 b.first, .slice A n cap, .int .i64 b.rate] hcB0.out _ Try.underlying39 rfl Bas.size ?_)
    refine (impl_IsPortfolio_any b A n cap H m hcap xs _ HBT.out HL.out hm HX.out HF.out).mono ?_
    rw [hp]
    rintro e w1 ⟨rfl, hb1⟩
    have HBT1 := Lib.hid (HBT.out.past hb1)
    have HX1 := Lib.hid (HX.out.past hb1)
    have hb01 := hbw.trans (hb1.mono hbw.size)
    have hcB1 := Lib.hid (Blk.agg (cs := [.int .i64 b.first, .slice A n cap, .int .i64 b.rate]) (HB.out.below' hb1) 0 [.int .i64 b.first, .slice A n cap, .int .i64 b.rate] rfl)
    go_wp2_with (first | (go_at_call 78; refine (impl_isAmount_any _ _).mono ?_; rintro e w' ⟨rfl, rfl⟩) | (refine wpList_load_agg rfl 39 _ rfl ⟨w.heap.size, 0, none⟩ rfl [.int .i64 b.first, .slice A n cap, .int .i64 b.rate] hcB1.out _ Try.underlying39 rfl Bas.size ?_))
    refine (impl_reserves_any b A n cap H m hcap xs _ HBT1.out HL.out hm30 HX1.out HH.out).mono ?_
    rintro e w2 ⟨A', c', rfl, hR, hb2⟩
    have HR := Lib.hid hR.rd; clear hR
    have hb02 := hb01.trans (hb2.mono hb01.size)
    go_wp2_with fail
    refine (impl_total_any A' m c' (resL b xs) _ (by rw [resL, List.length_map]; exact HL.out) hm HR.out HS.out).mono ?_
    rw [hT.out]
    rintro e w3 ⟨rfl, rfl⟩
    go_wp2
    go_ret2
    exact ⟨by rw [Q.out]; first | rfl | (simp [HM.out]; done), hb02⟩
  · have Q := Lib.hid (show rateP b xs a = ((1000 * a).tdiv T, 0) by simp [rateP, hp, hi, hT.out, ht])
    have HM := Lib.hid (Int.mul_comm a 1000)
    have hz : (T == 0) = false := by simp [ht]
    obtain ⟨r0, r1⟩ := rate_bound a0 a1 (show 0 < T by omega)
    have r2 := r0; have r3 := r1
    rw [Int.mul_comm] at r2 r3
    go_enter Try.func43, Try.ntmps43
    go_wp2_with (refine wpList_load_agg rfl 39 _ rfl ⟨w.heap.size, 0, none⟩ rfl [.int .i64 b.first, .slice A n cap, .int .i64 b.rate] hcB0.out _ Try.underlying39 rfl Bas.size ?_)
    refine (impl_IsPortfolio_any b A n cap H m hcap xs _ HBT.out HL.out hm HX.out HF.out).mono ?_
    rw [hp]
    rintro e w1 ⟨rfl, hb1⟩
    have HBT1 := Lib.hid (HBT.out.past hb1)
    have HX1 := Lib.hid (HX.out.past hb1)
    have hb01 := hbw.trans (hb1.mono hbw.size)
    have hcB1 := Lib.hid (Blk.agg (cs := [.int .i64 b.first, .slice A n cap, .int .i64 b.rate]) (HB.out.below' hb1) 0 [.int .i64 b.first, .slice A n cap, .int .i64 b.rate] rfl)
    go_wp2_with (first | (go_at_call 78; refine (impl_isAmount_any _ _).mono ?_; rintro e w' ⟨rfl, rfl⟩) | (refine wpList_load_agg rfl 39 _ rfl ⟨w.heap.size, 0, none⟩ rfl [.int .i64 b.first, .slice A n cap, .int .i64 b.rate] hcB1.out _ Try.underlying39 rfl Bas.size ?_))
    refine (impl_reserves_any b A n cap H m hcap xs _ HBT1.out HL.out hm30 HX1.out HH.out).mono ?_
    rintro e w2 ⟨A', c', rfl, hR, hb2⟩
    have HR := Lib.hid hR.rd; clear hR
    have hb02 := hb01.trans (hb2.mono hb01.size)
    go_wp2_with fail
    refine (impl_total_any A' m c' (resL b xs) _ (by rw [resL, List.length_map]; exact HL.out) hm HR.out HS.out).mono ?_
    rw [hT.out]
    rintro e w3 ⟨rfl, rfl⟩
    go_wp2
    go_ret2
    exact ⟨by rw [Q.out]; first | rfl | (simp [HM.out]; done), hb02⟩

end Go.Proofs.Ytkpppajihgnkcaa
