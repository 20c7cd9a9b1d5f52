/- Parts of a proof, one after another: Port7, Share4. No condition. -/
import Derived.Test.YtbjdbpdgacfcpaaGreatK1
import Derived.Test.YtbjdbpdgacfcpaaGreatK13
import Derived.Test.YtbjdbpdgacfcpaaGreatK21
import Derived.Test.YtbjdbpdgacfcpaaGreatK22
import Derived.Deep.DeepCutAuto
/- The rate of a bonus: the program's and the reference's contracts. -/
section
namespace Go.Proofs.YtbjdbpdgacfcpaaGreat
open Go.RowKit Go.BigFrame

def rateP (b : Bas) (xs : List Holding) (a : Int) : Int × Int :=
  if portB b xs = true then (if inR a 0 1000000000 = true then (if (resL b xs).sum = 0 then (0, 5) else ((1000 * a).tdiv (resL b xs).sum, 0)) else (0, 2)) else (0, 1)
theorem resL_pos {b : Bas} {xs : List Holding} (hl : xs.length ≤ 30) (hh : ∀ x ∈ xs, holdB b x = true) : 0 ≤ (resL b xs).sum ∧ (resL b xs).sum ≤ 100000001000000 * (30 : Nat) :=
  (sums_of (n := 30) (hi := 100000001000000) (by omega) (by simpa [resL] using hl) (fun v hv => by
    obtain ⟨x, hx, rfl⟩ := List.mem_map.1 hv
    exact resV_bound (hh x hx)) (by omega)).2
theorem rate_bound {a t : Int} (h0 : 0 ≤ a) (h1 : a ≤ 1000000000) (ht : 0 < t) : 0 ≤ (1000 * a).tdiv t ∧ (1000 * a).tdiv t ≤ 1000000000000 := by
  rw [Int.tdiv_eq_ediv_of_nonneg (by omega)]
  have h2 : 0 ≤ 1000 * a / t := Int.ediv_nonneg (by omega) (by omega)
  have h3 : 1000 * a / t ≤ 1000 * a := Int.ediv_le_self _ (by omega)
  omega

set_option maxHeartbeats 4000000 in
theorem spec_BonusRate_any (b : Bas) (A : Option Addr) (n cap : Nat) (H : Option Addr) (m hcap : Nat) (xs : List Holding) (w : World) (hB : BasT w A n cap b) (hl : xs.length = m) (hm : m ≤ 1048576) (hX : Rd w w.heap.size H 7 (holdingRows xs)) (hf : ∀ x ∈ xs, x.fits) (a : Int) (_ha : In64 a) :
    Calls Tryz.prog 68 #[.agg #[.int .i64 b.first, .slice A n cap, .int .i64 b.rate], .slice H m hcap, .int .i64 a] w fun e w' => e = .returned (.tuple #[.int .i64 (rateP b xs a).1, .int .i64 (rateP b xs a).2]) ∧ Below w.heap.size w w' := by
  have hbw : Below w.heap.size w (w.alloc (.cells #[.int .i64 b.first, .slice A n cap, .int .i64 b.rate] 28)) := (Below.refl _ w).alloc (Nat.le_refl _) _
  have HB := Lib.hid (Blk.new w 28 #[.int .i64 b.first, .slice A n cap, .int .i64 b.rate])
  have HBT := Lib.hid (hB.past hbw); clear hB
  have HX := Lib.hid (hX.past hbw); clear hX
  have HL := Lib.hid hl; clear hl
  have HF := Lib.hid hf; clear hf
  have hcB0 := Lib.hid (Blk.agg (cs := [.int .i64 b.first, .slice A n cap, .int .i64 b.rate]) HB.out 0 [.int .i64 b.first, .slice A n cap, .int .i64 b.rate] rfl)
  cases hp : portB b xs
  · have Q := Lib.hid (show rateP b xs a = (0, 1) by simp [rateP, hp])
    have QT := Lib.hid (show totP b xs = (0, 1) by simp [totP, hp])
    go_enter Tryz.func68, Tryz.ntmps68
    go_wp2_with (refine wpList_load_agg rfl 28 _ rfl ⟨w.heap.size, 0, none⟩ rfl [.int .i64 b.first, .slice A n cap, .int .i64 b.rate] hcB0.out _ Tryz.underlying28 rfl Bas.size ?_)
    refine (spec_TotalReserve_any b A n cap H m hcap xs _ HBT.out HL.out hm HX.out HF.out).mono ?_
    rw [QT.out]
    rintro e w1 ⟨rfl, hb1⟩
    go_wp2_with (first | (go_at_call 131; refine (spec_l19Amount_any _ _).mono ?_; rintro e w' ⟨rfl, rfl⟩))
    go_ret2
    exact ⟨by rw [Q.out]; rfl, hbw.trans (hb1.mono hbw.size)⟩
  obtain ⟨h30, hh⟩ := port_hold hp
  obtain ⟨s0, s1⟩ := resL_pos h30 hh
  have HS := Lib.hid (resL_sums h30 hh)
  have HH := Lib.hid hh; clear hh
  have hm30 : m ≤ 30 := by have := HL.out; omega
  obtain ⟨T, hT0⟩ : ∃ T, (resL b xs).sum = T := ⟨_, rfl⟩
  have hT := Lib.hid hT0
  rw [hT0] at s0 s1
  clear hT0
  have QT := Lib.hid (show totP b xs = (T, 0) by simp [totP, hp, hT.out])
  cases hi : inR a 0 1000000000
  · have Q := Lib.hid (show rateP b xs a = (0, 2) by simp [rateP, hp, hi])
    go_enter Tryz.func68, Tryz.ntmps68
    go_wp2_with (refine wpList_load_agg rfl 28 _ rfl ⟨w.heap.size, 0, none⟩ rfl [.int .i64 b.first, .slice A n cap, .int .i64 b.rate] hcB0.out _ Tryz.underlying28 rfl Bas.size ?_)
    refine (spec_TotalReserve_any b A n cap H m hcap xs _ HBT.out HL.out hm HX.out HF.out).mono ?_
    rw [QT.out]
    rintro e w1 ⟨rfl, hb1⟩
    go_wp2_with (first | (go_at_call 131; refine (spec_l19Amount_any _ _).mono ?_; rintro e w' ⟨rfl, rfl⟩))
    go_ret2
    exact ⟨by rw [Q.out]; rfl, hbw.trans (hb1.mono hbw.size)⟩
  obtain ⟨a0, a1⟩ := inR_true.1 hi
  by_cases ht : T = 0
  · have Q := Lib.hid (show rateP b xs a = (0, 5) by simp [rateP, hp, hi, hT.out, ht])
    have HM := Lib.hid (Int.mul_comm a 1000)
    have hz : (T == 0) = true := by simp [ht]
    clear ht
    go_enter Tryz.func68, Tryz.ntmps68
    go_wp2_with (refine wpList_load_agg rfl 28 _ rfl ⟨w.heap.size, 0, none⟩ rfl [.int .i64 b.first, .slice A n cap, .int .i64 b.rate] hcB0.out _ Tryz.underlying28 rfl Bas.size ?_)
    refine (spec_TotalReserve_any b A n cap H m hcap xs _ HBT.out HL.out hm HX.out HF.out).mono ?_
    rw [QT.out]
    rintro e w1 ⟨rfl, hb1⟩
    go_wp2_with (first | (go_at_call 131; refine (spec_l19Amount_any _ _).mono ?_; rintro e w' ⟨rfl, rfl⟩))
    go_ret2
    exact ⟨by rw [Q.out]; rfl, hbw.trans (hb1.mono hbw.size)⟩
  · have Q := Lib.hid (show rateP b xs a = ((1000 * a).tdiv T, 0) by simp [rateP, hp, hi, hT.out, ht])
    have HM := Lib.hid (Int.mul_comm a 1000)
    have hz : (T == 0) = false := by simp [ht]
    obtain ⟨r0, r1⟩ := rate_bound a0 a1 (show 0 < T by omega)
    have r2 := r0; have r3 := r1
    rw [Int.mul_comm] at r2 r3
    go_enter Tryz.func68, Tryz.ntmps68
    go_wp2_with (refine wpList_load_agg rfl 28 _ rfl ⟨w.heap.size, 0, none⟩ rfl [.int .i64 b.first, .slice A n cap, .int .i64 b.rate] hcB0.out _ Tryz.underlying28 rfl Bas.size ?_)
    refine (spec_TotalReserve_any b A n cap H m hcap xs _ HBT.out HL.out hm HX.out HF.out).mono ?_
    rw [QT.out]
    rintro e w1 ⟨rfl, hb1⟩
    go_wp2_with (first | (go_at_call 131; refine (spec_l19Amount_any _ _).mono ?_; rintro e w' ⟨rfl, rfl⟩))
    go_ret2
    exact ⟨by rw [Q.out]; rfl, hbw.trans (hb1.mono hbw.size)⟩

set_option maxHeartbeats 4000000 in
theorem impl_BonusRate_any (b : Bas) (A : Option Addr) (n cap : Nat) (H : Option Addr) (m hcap : Nat) (xs : List Holding) (w : World) (hB : BasT w A n cap b) (hl : xs.length = m) (hm : m ≤ 1048576) (hX : Rd w w.heap.size H 7 (holdingRows xs)) (hf : ∀ x ∈ xs, x.fits) (a : Int) (_ha : In64 a) :
    Calls Tryz.prog 67 #[.agg #[.int .i64 b.first, .slice A n cap, .int .i64 b.rate], .slice H m hcap, .int .i64 a] w fun e w' => e = .returned (.tuple #[.int .i64 (rateP b xs a).1, .int .i64 (rateP b xs a).2]) ∧ Below w.heap.size w w' := by
  have hbw : Below w.heap.size w (w.alloc (.cells #[.int .i64 b.first, .slice A n cap, .int .i64 b.rate] 28)) := (Below.refl _ w).alloc (Nat.le_refl _) _
  have HB := Lib.hid (Blk.new w 28 #[.int .i64 b.first, .slice A n cap, .int .i64 b.rate])
  have HBT := Lib.hid (hB.past hbw); clear hB
  have HX := Lib.hid (hX.past hbw); clear hX
  have HL := Lib.hid hl; clear hl
  have HF := Lib.hid hf; clear hf
  have hcB0 := Lib.hid (Blk.agg (cs := [.int .i64 b.first, .slice A n cap, .int .i64 b.rate]) HB.out 0 [.int .i64 b.first, .slice A n cap, .int .i64 b.rate] rfl)
  cases hp : portB b xs
  · have Q := Lib.hid (show rateP b xs a = (0, 1) by simp [rateP, hp])
    have QT := Lib.hid (show totP b xs = (0, 1) by simp [totP, hp])
    go_enter Tryz.func67, Tryz.ntmps67
    go_wp2_with (refine wpList_load_agg rfl 28 _ rfl ⟨w.heap.size, 0, none⟩ rfl [.int .i64 b.first, .slice A n cap, .int .i64 b.rate] hcB0.out _ Tryz.underlying28 rfl Bas.size ?_)
    refine (impl_IsPortfolio_any b A n cap H m hcap xs _ HBT.out HL.out hm HX.out HF.out).mono ?_
    rw [hp]
    rintro e w1 ⟨rfl, hb1⟩
    have HBT1 := Lib.hid (HBT.out.past hb1)
    have HX1 := Lib.hid (HX.out.past hb1)
    have hb01 := hbw.trans (hb1.mono hbw.size)
    have hcB1 := Lib.hid (Blk.agg (cs := [.int .i64 b.first, .slice A n cap, .int .i64 b.rate]) (HB.out.below' hb1) 0 [.int .i64 b.first, .slice A n cap, .int .i64 b.rate] rfl)
    go_wp2
    go_ret2
    exact ⟨by rw [Q.out]; rfl, hb01⟩
  obtain ⟨h30, hh⟩ := port_hold hp
  obtain ⟨s0, s1⟩ := resL_pos h30 hh
  have HS := Lib.hid (resL_sums h30 hh)
  have HH := Lib.hid hh; clear hh
  have hm30 : m ≤ 30 := by have := HL.out; omega
  obtain ⟨T, hT0⟩ : ∃ T, (resL b xs).sum = T := ⟨_, rfl⟩
  have hT := Lib.hid hT0
  rw [hT0] at s0 s1
  clear hT0
  have QT := Lib.hid (show totP b xs = (T, 0) by simp [totP, hp, hT.out])
  cases hi : inR a 0 1000000000
  · have Q := Lib.hid (show rateP b xs a = (0, 2) by simp [rateP, hp, hi])
    go_enter Tryz.func67, Tryz.ntmps67
    go_wp2_with (refine wpList_load_agg rfl 28 _ rfl ⟨w.heap.size, 0, none⟩ rfl [.int .i64 b.first, .slice A n cap, .int .i64 b.rate] hcB0.out _ Tryz.underlying28 rfl Bas.size ?_)
    refine (impl_IsPortfolio_any b A n cap H m hcap xs _ HBT.out HL.out hm HX.out HF.out).mono ?_
    rw [hp]
    rintro e w1 ⟨rfl, hb1⟩
    have HBT1 := Lib.hid (HBT.out.past hb1)
    have HX1 := Lib.hid (HX.out.past hb1)
    have hb01 := hbw.trans (hb1.mono hbw.size)
    have hcB1 := Lib.hid (Blk.agg (cs := [.int .i64 b.first, .slice A n cap, .int .i64 b.rate]) (HB.out.below' hb1) 0 [.int .i64 b.first, .slice A n cap, .int .i64 b.rate] rfl)
    go_wp2_with (first | (go_at_call 133; refine (impl_isAmount_any _ _).mono ?_; rintro e w' ⟨rfl, rfl⟩))
    go_ret2
    exact ⟨by rw [Q.out]; rfl, hb01⟩
  obtain ⟨a0, a1⟩ := inR_true.1 hi
  by_cases ht : T = 0
  · have Q := Lib.hid (show rateP b xs a = (0, 5) by simp [rateP, hp, hi, hT.out, ht])
    have HM := Lib.hid (Int.mul_comm a 1000)
    have hz : (T == 0) = true := by simp [ht]
    clear ht
    go_enter Tryz.func67, Tryz.ntmps67
    go_wp2_with (refine wpList_load_agg rfl 28 _ rfl ⟨w.heap.size, 0, none⟩ rfl [.int .i64 b.first, .slice A n cap, .int .i64 b.rate] hcB0.out _ Tryz.underlying28 rfl Bas.size ?_)
    refine (impl_IsPortfolio_any b A n cap H m hcap xs _ HBT.out HL.out hm HX.out HF.out).mono ?_
    rw [hp]
    rintro e w1 ⟨rfl, hb1⟩
    have HBT1 := Lib.hid (HBT.out.past hb1)
    have HX1 := Lib.hid (HX.out.past hb1)
    have hb01 := hbw.trans (hb1.mono hbw.size)
    have hcB1 := Lib.hid (Blk.agg (cs := [.int .i64 b.first, .slice A n cap, .int .i64 b.rate]) (HB.out.below' hb1) 0 [.int .i64 b.first, .slice A n cap, .int .i64 b.rate] rfl)
    go_wp2_with (first | (go_at_call 133; refine (impl_isAmount_any _ _).mono ?_; rintro e w' ⟨rfl, rfl⟩) | (refine wpList_load_agg rfl 28 _ rfl ⟨w.heap.size, 0, none⟩ rfl [.int .i64 b.first, .slice A n cap, .int .i64 b.rate] hcB1.out _ Tryz.underlying28 rfl Bas.size ?_))
    refine (impl_reserves_any b A n cap H m hcap xs _ HBT1.out HL.out hm30 HX1.out HH.out).mono ?_
    rintro e w2 ⟨A', c', rfl, hR, hb2⟩
    have HR := Lib.hid hR.rd; clear hR
    have hb02 := hb01.trans (hb2.mono hb01.size)
    go_wp2_with fail
    refine (impl_total_any A' m c' (resL b xs) _ (by rw [resL, List.length_map]; exact HL.out) hm HR.out HS.out).mono ?_
    rw [hT.out]
    rintro e w3 ⟨rfl, rfl⟩
    go_wp2
    go_ret2
    exact ⟨by rw [Q.out]; first | rfl | (simp [HM.out]; done), hb02⟩
  · have Q := Lib.hid (show rateP b xs a = ((1000 * a).tdiv T, 0) by simp [rateP, hp, hi, hT.out, ht])
    have HM := Lib.hid (Int.mul_comm a 1000)
    have hz : (T == 0) = false := by simp [ht]
    obtain ⟨r0, r1⟩ := rate_bound a0 a1 (show 0 < T by omega)
    have r2 := r0; have r3 := r1
    rw [Int.mul_comm] at r2 r3
    go_enter Tryz.func67, Tryz.ntmps67
    go_wp2_with (refine wpList_load_agg rfl 28 _ rfl ⟨w.heap.size, 0, none⟩ rfl [.int .i64 b.first, .slice A n cap, .int .i64 b.rate] hcB0.out _ Tryz.underlying28 rfl Bas.size ?_)
    refine (impl_IsPortfolio_any b A n cap H m hcap xs _ HBT.out HL.out hm HX.out HF.out).mono ?_
    rw [hp]
    rintro e w1 ⟨rfl, hb1⟩
    have HBT1 := Lib.hid (HBT.out.past hb1)
    have HX1 := Lib.hid (HX.out.past hb1)
    have hb01 := hbw.trans (hb1.mono hbw.size)
    have hcB1 := Lib.hid (Blk.agg (cs := [.int .i64 b.first, .slice A n cap, .int .i64 b.rate]) (HB.out.below' hb1) 0 [.int .i64 b.first, .slice A n cap, .int .i64 b.rate] rfl)
    go_wp2_with (first | (go_at_call 133; refine (impl_isAmount_any _ _).mono ?_; rintro e w' ⟨rfl, rfl⟩) | (refine wpList_load_agg rfl 28 _ rfl ⟨w.heap.size, 0, none⟩ rfl [.int .i64 b.first, .slice A n cap, .int .i64 b.rate] hcB1.out _ Tryz.underlying28 rfl Bas.size ?_))
    refine (impl_reserves_any b A n cap H m hcap xs _ HBT1.out HL.out hm30 HX1.out HH.out).mono ?_
    rintro e w2 ⟨A', c', rfl, hR, hb2⟩
    have HR := Lib.hid hR.rd; clear hR
    have hb02 := hb01.trans (hb2.mono hb01.size)
    go_wp2_with fail
    refine (impl_total_any A' m c' (resL b xs) _ (by rw [resL, List.length_map]; exact HL.out) hm HR.out HS.out).mono ?_
    rw [hT.out]
    rintro e w3 ⟨rfl, rfl⟩
    go_wp2
    go_ret2
    exact ⟨by rw [Q.out]; first | rfl | (simp [HM.out]; done), hb02⟩

end Go.Proofs.YtbjdbpdgacfcpaaGreat
end

/- The division of a bonus: both sides (printed by divb.py). -/
section
namespace Go.Proofs.YtbjdbpdgacfcpaaGreat
open Go.RowKit Go.BigFrame

theorem dv_small (b : Bas) (xs : List Holding) (a s : Int) : (dvP b xs a s).1.length ≤ 1048576 := by
  unfold dvP
  split
  · rename_i h
    have := (port_hold h).1
    split
    · unfold shP
      split
      · simp
      · rw [sharesL_length, weights_length]; omega
    · simp
  · simp
set_option maxRecDepth 20000 in
set_option maxHeartbeats 8000000 in
theorem impl_DivideBonus_any (b : Bas) (A : Option Addr) (n cap : Nat) (H : Option Addr) (m hcap : Nat) (xs : List Holding) (a s : Int) (w : World) (hB : BasT w A n cap b) (hl : xs.length = m) (hm : m ≤ 1048576) (hX : Rd w w.heap.size H 7 (holdingRows xs)) (hf : ∀ x ∈ xs, x.fits) (_ha : In64 a) (_hs : In64 s) :
    Calls Tryz.prog 53 #[.agg #[.int .i64 b.first, .slice A n cap, .int .i64 b.rate], .slice H m hcap, .int .i64 a, .int .i64 s] w fun e w' => ∃ A' n' c', e = .returned (.tuple #[.slice A' n' c', .int .i64 (dvP b xs a s).2]) ∧ Res w.heap.size w' 2 1 A' n' c' (intRows (dvP b xs a s).1) ∧ Below w.heap.size w w' := by
  have HF := Lib.hid hf; clear hf
  have HL := Lib.hid hl; clear hl
  have HB := Lib.hid (Below.refl w.heap.size w)
  have HH := Lib.hid ((Held.nil w).cons hX); clear hX
  have HT := Lib.hid hB; clear hB
  obtain ⟨hb, hr0⟩ := box1 (w := w) (tx := 28) (X := [.int .i64 b.first, .slice A n cap, .int .i64 b.rate])
  replace HB := Lib.hid (below_all HB.out hb)
  replace HT := Lib.hid (HT.out.past hb)
  replace HH := Lib.hid ((HH.out.past hb).cons hr0)
  clear hb hr0
  cases hp : portB b xs
  · skip
    have Q := Lib.hid (show dvP b xs a s = ([], 1) by unfold dvP; rw [if_neg (by rw [hp]; simp)])
    go_enter Tryz.func53, Tryz.ntmps53
    have HL_bx := Lib.hid (Rd.box (HH.out.get 0 rfl))
    go_wp2_with (refine wpList_load_agg rfl 28 _ rfl ⟨w.heap.size, 0, none⟩ rfl [.int .i64 b.first, .slice A n cap, .int .i64 b.rate] HL_bx.out _ Tryz.underlying28 rfl Bas.size ?_)
    clear HL_bx
    generalize (w.alloc (.cells #[.int .i64 b.first, .slice A n cap, .int .i64 b.rate] 28)) = v0 at HB HH HT ⊢
    generalize w.heap.size = g0_0 at HH ⊢
    refine (impl_IsPortfolio_any b A n cap H m hcap xs _ HT.out HL.out hm (HH.out.get 1 rfl) HF.out).mono ?_
    rw [hp]
    rintro e w1 ⟨rfl, hb⟩
    replace HB := Lib.hid (below_all HB.out hb)
    replace HT := Lib.hid (HT.out.past hb)
    replace HH := Lib.hid (HH.out.past hb)
    clear hb
    go_wp2
    go_ret2
    exact ⟨none, 0, 0, by rw [Q.out]; rfl, by rw [Q.out]; exact Res.nil_, HB.out⟩
  · skip
    cases hin : (inR a 0 1000000000 && inR s 0 500)
    · skip
      have Q := Lib.hid (show dvP b xs a s = ([], 2) by unfold dvP; rw [if_pos hp, if_neg (by rw [hin]; simp)])
      have HIN := Lib.hid hin; clear hin
      go_enter Tryz.func53, Tryz.ntmps53
      have HL_bx := Lib.hid (Rd.box (HH.out.get 0 rfl))
      go_wp2_with (refine wpList_load_agg rfl 28 _ rfl ⟨w.heap.size, 0, none⟩ rfl [.int .i64 b.first, .slice A n cap, .int .i64 b.rate] HL_bx.out _ Tryz.underlying28 rfl Bas.size ?_)
      clear HL_bx
      generalize (w.alloc (.cells #[.int .i64 b.first, .slice A n cap, .int .i64 b.rate] 28)) = v0 at HB HH HT ⊢
      generalize w.heap.size = g0_0 at HH ⊢
      refine (impl_IsPortfolio_any b A n cap H m hcap xs _ HT.out HL.out hm (HH.out.get 1 rfl) HF.out).mono ?_
      rw [hp]
      rintro e w1 ⟨rfl, hb⟩
      replace HB := Lib.hid (below_all HB.out hb)
      replace HT := Lib.hid (HT.out.past hb)
      replace HH := Lib.hid (HH.out.past hb)
      clear hb
      go_wp2_with (go_at_call 123; refine (impl_isSurplus_any _ _ _).mono ?_; rw [HIN.out]; rintro e w' ⟨rfl, rfl⟩)
      go_ret2
      exact ⟨none, 0, 0, by rw [Q.out]; rfl, by rw [Q.out]; exact Res.nil_, HB.out⟩
    · skip
      obtain ⟨h30, hh⟩ := port_hold hp
      have hm30 : m ≤ 30 := by have := HL.out; omega
      have HHO := Lib.hid hh
      have hi1 : inR a 0 1000000000 = true := by simp only [Bool.and_eq_true] at hin; exact hin.1
      have hi2 : inR s 0 500 = true := by simp only [Bool.and_eq_true] at hin; exact hin.2
      obtain ⟨a0, a1⟩ := inR_true.1 hi1
      obtain ⟨s0, s1⟩ := inR_true.1 hi2
      obtain ⟨k0, k1⟩ := kept_le a0 ⟨s0, s1⟩
      obtain ⟨m0, m1⟩ := mul_bounds hi1 hi2
      have HWB := Lib.hid (weights_bound hh)
      have HWL := Lib.hid (show (weightsL b xs).length = m by rw [weights_length]; exact HL.out)
      have QD := Lib.hid (show dvP b xs a s = shP (a - ceilDiv (a * s) 1000) (weightsL b xs) by unfold dvP; rw [if_pos hp, if_pos hin])
      obtain ⟨kp, hkp⟩ : ∃ kp, kp = ceilDiv (a * s) 1000 := ⟨_, rfl⟩
      have HKP := Lib.hid hkp
      rw [← hkp] at k0 k1 QD
      have HP := Lib.hid hp; have HIN := Lib.hid hin
      clear hkp hh h30
      clear hp hin
      go_enter Tryz.func53, Tryz.ntmps53
      have HL_bx := Lib.hid (Rd.box (HH.out.get 0 rfl))
      go_wp2_with (refine wpList_load_agg rfl 28 _ rfl ⟨w.heap.size, 0, none⟩ rfl [.int .i64 b.first, .slice A n cap, .int .i64 b.rate] HL_bx.out _ Tryz.underlying28 rfl Bas.size ?_)
      clear HL_bx
      generalize (w.alloc (.cells #[.int .i64 b.first, .slice A n cap, .int .i64 b.rate] 28)) = v0 at HB HH HT ⊢
      generalize w.heap.size = g0_0 at HH ⊢
      refine (impl_IsPortfolio_any b A n cap H m hcap xs _ HT.out HL.out hm (HH.out.get 1 rfl) HF.out).mono ?_
      rw [HP.out]
      rintro e w1 ⟨rfl, hb⟩
      replace HB := Lib.hid (below_all HB.out hb)
      replace HT := Lib.hid (HT.out.past hb)
      replace HH := Lib.hid (HH.out.past hb)
      clear hb
      go_upto_region 5 with (go_at_call 123; refine (impl_isSurplus_any _ _ _).mono ?_; rw [HIN.out]; rintro e w' ⟨rfl, rfl⟩)
      have p0 : w1.cell? ⟨g0_0, 0, none⟩ = some (.int .i64 b.first) := Rd.bcell (HH.out.get 0 rfl) 0 rfl
      have p1 : w1.cell? ⟨g0_0, 1, none⟩ = some (.slice A n cap) := Rd.bcell (HH.out.get 0 rfl) 1 rfl
      have p2 : w1.cell? ⟨g0_0, 2, none⟩ = some (.int .i64 b.rate) := Rd.bcell (HH.out.get 0 rfl) 2 rfl
      have hwr : IntKind.i64.wrap (a * s) = a * s := IntWalk.i64_in _ (by omega)
      have hwk : IntKind.i64.wrap (a - kp) = a - kp := IntWalk.i64_in _ (by omega)
      have HXD := Lib.hid (HH.out.get 1 rfl)
      go_region_law (first | (go_simp; go_at_call 125; refine (impl_up_any _ _ _ (by omega) (by omega) (by omega) (by omega)).mono ?_; rw [← HKP.out]; rintro e w' ⟨rfl, rfl⟩) | (go_simp; go_at_call 126; refine (impl_bonusWeights_any b A n cap H m hcap xs _ (by first | exact HT.out | exact HT.out.past (Below.refl _ _).drew) HL.out hm30 (by first | exact HXD.out | exact HXD.out.past (Below.refl _ _).drew) HHO.out).mono ?_; rintro e w8 ⟨A8, c8, rfl, hR8, hb8⟩; have HR8 := Lib.hid hR8; have HB8 := Lib.hid (show Below w1.heap.size w1 w8 by first | exact hb8 | exact of_drew hb8)) | (go_simp; go_at_call 124; refine (impl_ShareOut_at (a - kp) A8 m c8 (weightsL b xs) _ HWL.out hm30 HR8.out.rd HWB.out ⟨by omega, by omega⟩).mono ?_; rintro e w9 ⟨A9, n9, c9, rfl, hR9, hb9⟩; have HR9 := Lib.hid hR9; have HB9 := Lib.hid hb9))
      all_goals
        have HBF := Lib.hid (below_all (below_all HB.out HB8.out) HB9.out)
        have HRF := Lib.hid (HR9.out.more (Nat.le_trans HB.out.size HB8.out.size))
        go_wp2
        go_ret2
        exact ⟨A9, n9, c9, by rw [QD.out]; rfl, by rw [QD.out]; exact HRF.out, HBF.out⟩
set_option maxRecDepth 20000 in
set_option maxHeartbeats 8000000 in
theorem spec_DivideBonus_any (b : Bas) (A : Option Addr) (n cap : Nat) (H : Option Addr) (m hcap : Nat) (xs : List Holding) (a s : Int) (w : World) (hB : BasT w A n cap b) (hl : xs.length = m) (hm : m ≤ 1048576) (hX : Rd w w.heap.size H 7 (holdingRows xs)) (hf : ∀ x ∈ xs, x.fits) (_ha : In64 a) (_hs : In64 s) :
    Calls Tryz.prog 50 #[.agg #[.int .i64 b.first, .slice A n cap, .int .i64 b.rate], .slice H m hcap, .int .i64 a, .int .i64 s] w fun e w' => ∃ A' n' c', e = .returned (.tuple #[.slice A' n' c', .int .i64 (dvP b xs a s).2]) ∧ Res w.heap.size w' 2 1 A' n' c' (intRows (dvP b xs a s).1) ∧ Below w.heap.size w w' := by
  have HF := Lib.hid hf; clear hf
  have HL := Lib.hid hl; clear hl
  have HB := Lib.hid (Below.refl w.heap.size w)
  have HH := Lib.hid ((Held.nil w).cons hX); clear hX
  have HT := Lib.hid hB; clear hB
  obtain ⟨hb, hr0⟩ := box1 (w := w) (tx := 28) (X := [.int .i64 b.first, .slice A n cap, .int .i64 b.rate])
  replace HB := Lib.hid (below_all HB.out hb)
  replace HT := Lib.hid (HT.out.past hb)
  replace HH := Lib.hid ((HH.out.past hb).cons hr0)
  clear hb hr0
  cases hp : portB b xs
  · skip
    have Q := Lib.hid (show dvP b xs a s = ([], 1) by unfold dvP; rw [if_neg (by rw [hp]; simp)])
    go_enter Tryz.func50, Tryz.ntmps50
    have HL_bx := Lib.hid (Rd.box (HH.out.get 0 rfl))
    go_wp2_with (refine wpList_load_agg rfl 28 _ rfl ⟨w.heap.size, 0, none⟩ rfl [.int .i64 b.first, .slice A n cap, .int .i64 b.rate] HL_bx.out _ Tryz.underlying28 rfl Bas.size ?_)
    clear HL_bx
    generalize (w.alloc (.cells #[.int .i64 b.first, .slice A n cap, .int .i64 b.rate] 28)) = v0 at HB HH HT ⊢
    generalize w.heap.size = g0_0 at HH ⊢
    refine (spec_IsPortfolio_any b A n cap H m hcap xs _ HT.out HL.out hm (HH.out.get 1 rfl) HF.out).mono ?_
    rw [hp]
    rintro e w1 ⟨rfl, hb⟩
    replace HB := Lib.hid (below_all HB.out hb)
    replace HT := Lib.hid (HT.out.past hb)
    replace HH := Lib.hid (HH.out.past hb)
    clear hb
    go_wp2
    go_ret2
    exact ⟨none, 0, 0, by rw [Q.out]; rfl, by rw [Q.out]; exact Res.nil_, HB.out⟩
  · skip
    cases hin : (inR a 0 1000000000 && inR s 0 500)
    · skip
      have Q := Lib.hid (show dvP b xs a s = ([], 2) by unfold dvP; rw [if_pos hp, if_neg (by rw [hin]; simp)])
      have HKQ := Lib.hid (show keptPart a s = (0, 2) by unfold keptPart; rw [if_neg (fun h => by rw [h.1, h.2] at hin; cases hin)])
      go_enter Tryz.func50, Tryz.ntmps50
      have HL_bx := Lib.hid (Rd.box (HH.out.get 0 rfl))
      go_wp2_with (refine wpList_load_agg rfl 28 _ rfl ⟨w.heap.size, 0, none⟩ rfl [.int .i64 b.first, .slice A n cap, .int .i64 b.rate] HL_bx.out _ Tryz.underlying28 rfl Bas.size ?_)
      clear HL_bx
      generalize (w.alloc (.cells #[.int .i64 b.first, .slice A n cap, .int .i64 b.rate] 28)) = v0 at HB HH HT ⊢
      generalize w.heap.size = g0_0 at HH ⊢
      refine (spec_IsPortfolio_any b A n cap H m hcap xs _ HT.out HL.out hm (HH.out.get 1 rfl) HF.out).mono ?_
      rw [hp]
      rintro e w1 ⟨rfl, hb⟩
      replace HB := Lib.hid (below_all HB.out hb)
      replace HT := Lib.hid (HT.out.past hb)
      replace HH := Lib.hid (HH.out.past hb)
      clear hb
      go_wp2_with (go_at_call 65; refine (spec_KeptPart_any _ _ _).mono ?_; rw [HKQ.out]; rintro e w' ⟨rfl, rfl⟩)
      go_ret2
      exact ⟨none, 0, 0, by rw [Q.out]; rfl, by rw [Q.out]; exact Res.nil_, HB.out⟩
    · skip
      obtain ⟨h30, hh⟩ := port_hold hp
      have hm30 : m ≤ 30 := by have := HL.out; omega
      have HHO := Lib.hid hh
      have hi1 : inR a 0 1000000000 = true := by simp only [Bool.and_eq_true] at hin; exact hin.1
      have hi2 : inR s 0 500 = true := by simp only [Bool.and_eq_true] at hin; exact hin.2
      obtain ⟨a0, a1⟩ := inR_true.1 hi1
      obtain ⟨s0, s1⟩ := inR_true.1 hi2
      obtain ⟨k0, k1⟩ := kept_le a0 ⟨s0, s1⟩
      obtain ⟨m0, m1⟩ := mul_bounds hi1 hi2
      have HWB := Lib.hid (weights_bound hh)
      have HWL := Lib.hid (show (weightsL b xs).length = m by rw [weights_length]; exact HL.out)
      have QD := Lib.hid (show dvP b xs a s = shP (a - ceilDiv (a * s) 1000) (weightsL b xs) by unfold dvP; rw [if_pos hp, if_pos hin])
      obtain ⟨kp, hkp⟩ : ∃ kp, kp = ceilDiv (a * s) 1000 := ⟨_, rfl⟩
      have HKP := Lib.hid hkp
      rw [← hkp] at k0 k1 QD
      have HP := Lib.hid hp; have HIN := Lib.hid hin
      clear hkp hh h30
      have HKQ := Lib.hid (show keptPart a s = (kp, 0) by unfold keptPart; rw [if_pos ⟨hi1, hi2⟩, HKP.out])
      obtain ⟨HSU, hsm0, hsm1⟩ := sums_of (xs := weightsL b xs) (n := 30) (hi := 1000000000) (by omega) (by have := HWL.out; omega) HWB.out (by omega)
      have HSU := Lib.hid HSU
      clear hp hin hi1 hi2
      go_enter Tryz.func50, Tryz.ntmps50
      have HL_bx := Lib.hid (Rd.box (HH.out.get 0 rfl))
      go_wp2_with (refine wpList_load_agg rfl 28 _ rfl ⟨w.heap.size, 0, none⟩ rfl [.int .i64 b.first, .slice A n cap, .int .i64 b.rate] HL_bx.out _ Tryz.underlying28 rfl Bas.size ?_)
      clear HL_bx
      generalize (w.alloc (.cells #[.int .i64 b.first, .slice A n cap, .int .i64 b.rate] 28)) = v0 at HB HH HT ⊢
      generalize w.heap.size = g0_0 at HH ⊢
      refine (spec_IsPortfolio_any b A n cap H m hcap xs _ HT.out HL.out hm (HH.out.get 1 rfl) HF.out).mono ?_
      rw [HP.out]
      rintro e w1 ⟨rfl, hb⟩
      replace HB := Lib.hid (below_all HB.out hb)
      replace HT := Lib.hid (HT.out.past hb)
      replace HH := Lib.hid (HH.out.past hb)
      clear hb
      go_upto_region 6 with (go_at_call 65; refine (spec_KeptPart_any _ _ _).mono ?_; rw [HKQ.out]; rintro e w' ⟨rfl, rfl⟩)
      have HL_bx := Lib.hid (Rd.box (HH.out.get 0 rfl))
      go_wp2_with (refine wpList_load_agg rfl 28 _ rfl ⟨g0_0, 0, none⟩ rfl [.int .i64 b.first, .slice A n cap, .int .i64 b.rate] HL_bx.out _ Tryz.underlying28 rfl Bas.size ?_)
      clear HL_bx
      refine (spec_l19Weights_any b A n cap H m hcap xs _ HT.out HL.out hm30 (HH.out.get 1 rfl) HHO.out).mono ?_
      rintro e w2 ⟨A8, c8, rfl, hR, hb⟩
      replace HB := Lib.hid (below_all HB.out hb)
      replace HT := Lib.hid (HT.out.past hb)
      replace HH := Lib.hid ((HH.out.past hb).cons hR.rd)
      clear hb
      clear hR
      by_cases hz : (weightsL b xs).sum = 0
      · skip
        have Q := Lib.hid (QD.out.trans (if_pos hz))
        have HZ := Lib.hid hz; clear hz
        go_wp2_with (go_at_call 119; refine (spec_l01Sum_any A8 m c8 (weightsL b xs) _ HWL.out (by omega) (HH.out.get 0 rfl) HSU.out).mono ?_; rw [HZ.out]; rintro e w' ⟨rfl, rfl⟩)
        go_ret2
        exact ⟨none, 0, 0, by rw [Q.out]; rfl, by rw [Q.out]; exact Res.nil_, HB.out⟩
      · skip
        have Q := Lib.hid (QD.out.trans (if_neg hz))
        have hzb : ((weightsL b xs).sum == 0) = false := by simpa using hz
        have hpos : 0 < (weightsL b xs).sum := by omega
        have hm1 : 1 ≤ m := by
          rcases Nat.eq_zero_or_pos m with h | h
          · exfalso; apply hz; have h2 : weightsL b xs = [] := List.length_eq_zero_iff.1 (by rw [HWL.out]; exact h)
            rw [h2]; rfl
          · exact h
        clear hz
        go_upto_region 9 with (go_at_call 119; refine (spec_l01Sum_any A8 m c8 (weightsL b xs) _ HWL.out (by omega) (HH.out.get 0 rfl) HSU.out).mono ?_; rintro e w' ⟨rfl, rfl⟩)
        go_wp2_with fail
        refine (spec_l01Share_any (a - kp) A8 m c8 (weightsL b xs) _ HWL.out hm1 hm30 (HH.out.get 0 rfl) HWB.out ⟨by omega, by omega⟩ hpos).mono ?_
        rintro e w3 ⟨A9, c9, rfl, hR, hb⟩
        have HR9 := Lib.hid (hR.more (HB.out.size))
        replace HB := Lib.hid (below_all HB.out hb)
        replace HT := Lib.hid (HT.out.past hb)
        replace HH := Lib.hid (HH.out.past hb)
        clear hb
        clear hR
        go_wp2
        go_ret2
        exact ⟨A9, m, c9, by rw [Q.out]; rfl, by rw [Q.out]; exact HR9.out, HB.out⟩
end Go.Proofs.YtbjdbpdgacfcpaaGreat
end
