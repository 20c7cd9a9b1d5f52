/- The largest holding of a portfolio: the program's and the reference's contracts. -/
import Derived.Test.YtkpppajihgnkcaaPort4
namespace Go.Proofs.Ytkpppajihgnkcaa
open Go.RowKit Go.BigFrame

def gd (ys : List Int) (k : Nat) : Int := ys.getD k 0
theorem gd_get {ys : List Int} {k : Nat} {y : Int} (h : ys[k]? = some y) : gd ys k = y := by simp [gd, h]
def bestIx (ys : List Int) : Nat → Nat
  | 0 => 0
  | k + 1 => if gd ys (bestIx ys k) < gd ys k then k else bestIx ys k
theorem bestIx_succ (ys : List Int) (k : Nat) : bestIx ys (k + 1) = if gd ys (bestIx ys k) < gd ys k then k else bestIx ys k := rfl
theorem best_lt {ys : List Int} {n : Nat} (h : 0 < n) : ∀ k, k ≤ n → bestIx ys k < n
  | 0, _ => h
  | k + 1, hk => by
    rw [bestIx_succ]
    have := best_lt (ys := ys) h k (by omega)
    split <;> omega
theorem best_max {ys : List Int} : ∀ k j, j < k → gd ys j ≤ gd ys (bestIx ys k)
  | 0, j, h => by omega
  | k + 1, j, h => by
    rw [bestIx_succ]
    by_cases hj : j = k
    · subst hj; split <;> omega
    · have := best_max (ys := ys) k j (by omega)
      split <;> omega
theorem best_first {ys : List Int} : ∀ k j, j < bestIx ys k → gd ys j < gd ys (bestIx ys k)
  | 0, j, h => by simp [bestIx] at h
  | k + 1, j, h => by
    rw [bestIx_succ] at h ⊢
    split at h
    · rename_i hc
      rw [if_pos hc]
      have := best_max (ys := ys) k j h
      omega
    · rename_i hc
      rw [if_neg hc]
      exact best_first k j h
theorem best_one (ys : List Int) : bestIx ys 1 = 0 := by rw [bestIx_succ]; split <;> rfl
def largeP (b : Bas) (xs : List Holding) : Int × Int := if portB b xs = true then (if xs.length = 0 then (0, 4) else ((bestIx (resL b xs) xs.length : Int), 0)) else (0, 1)

set_option maxHeartbeats 1000000 in
theorem maxInts_any (A : Option Addr) (n cap : Nat) (ys : List Int) (w : World) (hl : ys.length = n) (h0 : 0 < n) (hn : n ≤ 1048576) (hX : Rd w w.heap.size A 1 (intRows ys)) :
    Calls Try.prog 88 #[.slice A n cap] w fun e w' => e = .returned (.int .i64 (gd ys (bestIx ys n))) ∧ w = w' := by
  have HX := Lib.hid hX; clear hX
  have HL := Lib.hid hl; clear hl
  obtain ⟨y, hy⟩ := get_of_lt (xs := ys) (k := 0) (by rw [HL.out]; exact h0)
  obtain ⟨ad0, rfl, had0, hc0⟩ := HX.out.int_at hy
  have hc0' : w.cell? ad0 = some (.int .i64 y) := by have := hc0; rwa [Addr.add_zero'] at this
  have HY := Lib.hid (show gd ys (bestIx ys 1) = y by rw [best_one]; exact gd_get hy)
  have h1 : ¬ (n : Int) < 1 := by omega
  have h2 : (0 : Int) < n := by omega
  clear hy hc0
  go_enter Try.func88, Try.ntmps88
  go_wp2
  go_loop [3, 4] (fun s i => ∃ k : Nat, 1 ≤ k ∧ k ≤ n ∧ i = .int .i64 k ∧ s = .int .i64 (gd ys (bestIx ys k))) (fun _ i => n - (intOf i).toNat)
  case atStart => exact ⟨1, by omega, by omega, rfl, by rw [HY.out]⟩
  case round =>
    obtain ⟨k, hk1, hk, rfl, rfl⟩ := hrel
    by_cases hlt : k < n
    · obtain ⟨x, hx⟩ := get_of_lt (xs := ys) (k := k) (by rw [HL.out]; exact hlt)
      obtain ⟨ad, e, had, hc⟩ := HX.out.int_at hx
      obtain rfl : ad0 = ad := by injection e
      have HE := Lib.hid (show gd ys (bestIx ys (k + 1)) = max (gd ys (bestIx ys k)) x by
        rw [bestIx_succ, gd_get hx]
        split
        · rw [gd_get hx]; omega
        · omega)
      clear hx e
      go_wp2
      go_round
      case rel => exact ⟨k + 1, by omega, by omega, by go_num, by rw [HE.out]⟩
      case measure => simp [intOf]; omega
    · have hkn : k = n := by omega
      subst hkn
      go_wp2
      go_ret
      exact ⟨rfl, rfl⟩

set_option maxHeartbeats 1000000 in
theorem indexInts_any (A : Option Addr) (n cap : Nat) (ys : List Int) (v : Int) (q : Nat) (w : World) (hl : ys.length = n) (hn : n ≤ 1048576) (hX : Rd w w.heap.size A 1 (intRows ys)) (hq : q < n) (hv : gd ys q = v) (hf : ∀ j, j < q → gd ys j ≠ v) :
    Calls Try.prog 87 #[.slice A n cap, .int .i64 v] w fun e w' => e = .returned (.int .i64 q) ∧ w = w' := by
  have HX := Lib.hid hX; clear hX
  have HL := Lib.hid hl; clear hl
  have HV := Lib.hid hv; clear hv
  have HF := Lib.hid hf; clear hf
  go_enter Try.func87, Try.ntmps87
  go_wp2
  go_loop [8] (fun i => ∃ k : Nat, k ≤ q ∧ i = .int .i64 k) (fun i => n - (intOf i).toNat)
  case atStart => exact ⟨0, by omega, rfl⟩
  case round =>
    obtain ⟨k, hk, rfl⟩ := hrel
    have hlt : k < n := by omega
    obtain ⟨x, hx⟩ := get_of_lt (xs := ys) (k := k) (by rw [HL.out]; exact hlt)
    obtain ⟨ad, rfl, had, hc⟩ := HX.out.int_at hx
    by_cases hkq : k = q
    · have hxv : x = v := by rw [← HV.out, ← hkq]; exact (gd_get hx).symm
      subst hkq hxv
      clear hx
      go_wp2
      go_ret
      exact ⟨rfl, rfl⟩
    · have hxv : ¬ x = v := by rw [← gd_get hx]; exact HF.out k (by omega)
      have hxb : (v == x) = false := by simp; omega
      have hxc : (x == v) = false := by simp [hxv]
      clear hx
      go_wp2
      go_round
      case rel => exact ⟨k + 1, by omega, by go_num⟩
      case measure => simp [intOf]; omega


set_option maxHeartbeats 4000000 in
theorem spec_LargestHolding_any (b : Bas) (A : Option Addr) (n cap : Nat) (H : Option Addr) (m hcap : Nat) (xs : List Holding) (w : World) (hB : BasT w A n cap b) (hl : xs.length = m) (hm : m ≤ 1048576) (hX : Rd w w.heap.size H 7 (holdingRows xs)) (hf : ∀ x ∈ xs, x.fits) :
    Calls Try.prog 40 #[.agg #[.int .i64 b.first, .slice A n cap, .int .i64 b.rate], .slice H m hcap] w fun e w' => e = .returned (.tuple #[.int .i64 (largeP b xs).1, .int .i64 (largeP b xs).2]) ∧ Below w.heap.size w w' := by
  have hbw : Below w.heap.size w (w.alloc (.cells #[.int .i64 b.first, .slice A n cap, .int .i64 b.rate] 39)) := (Below.refl _ w).alloc (Nat.le_refl _) _
  have HB := Lib.hid (Blk.new w 39 #[.int .i64 b.first, .slice A n cap, .int .i64 b.rate])
  have HBT := Lib.hid (hB.past hbw); clear hB
  have HX := Lib.hid (hX.past hbw); clear hX
  have HL := Lib.hid hl; clear hl
  have HF := Lib.hid hf; clear hf
  have hcB0 := Lib.hid (Blk.agg (cs := [.int .i64 b.first, .slice A n cap, .int .i64 b.rate]) HB.out 0 [.int .i64 b.first, .slice A n cap, .int .i64 b.rate] rfl)
  cases hp : portB b xs
  · have Q := Lib.hid (show largeP b xs = (0, 1) by simp [largeP, hp])
    go_enter Try.func40, Try.ntmps40
    go_wp2_with (refine wpList_load_agg rfl 39 _ rfl ⟨w.heap.size, 0, none⟩ rfl [.int .i64 b.first, .slice A n cap, .int .i64 b.rate] hcB0.out _ Try.underlying39 rfl Bas.size ?_)
    refine (spec_IsPortfolio_any b A n cap H m hcap xs _ HBT.out HL.out hm HX.out HF.out).mono ?_
    rw [hp]
    rintro e w1 ⟨rfl, hb1⟩
    go_wp2
    go_ret2
    exact ⟨by rw [Q.out]; rfl, hbw.trans (hb1.mono hbw.size)⟩
  obtain ⟨h30, hh⟩ := port_hold hp
  have HH := Lib.hid hh; clear hh
  have hm30 : m ≤ 30 := by have := HL.out; omega
  by_cases hm0 : m = 0
  · have Q := Lib.hid (show largeP b xs = (0, 4) by have h1 := HL.out; unfold largeP; rw [if_pos hp, if_pos (by omega)])
    have hz : ((m : Int) == 0) = true := by simp [hm0]
    clear hm0
    go_enter Try.func40, Try.ntmps40
    go_wp2_with (refine wpList_load_agg rfl 39 _ rfl ⟨w.heap.size, 0, none⟩ rfl [.int .i64 b.first, .slice A n cap, .int .i64 b.rate] hcB0.out _ Try.underlying39 rfl Bas.size ?_)
    refine (spec_IsPortfolio_any b A n cap H m hcap xs _ HBT.out HL.out hm HX.out HF.out).mono ?_
    rw [hp]
    rintro e w1 ⟨rfl, hb1⟩
    go_wp2
    go_ret2
    exact ⟨by rw [Q.out]; rfl, hbw.trans (hb1.mono hbw.size)⟩
  have hpos : 0 < m := by omega
  have hz : ((m : Int) == 0) = false := by simp; omega
  have Q := Lib.hid (show largeP b xs = ((bestIx (resL b xs) m : Int), 0) by
    have h1 := HL.out
    unfold largeP
    rw [if_pos hp, if_neg (by omega), h1])
  go_enter Try.func40, Try.ntmps40
  go_wp2_with (refine wpList_load_agg rfl 39 _ rfl ⟨w.heap.size, 0, none⟩ rfl [.int .i64 b.first, .slice A n cap, .int .i64 b.rate] hcB0.out _ Try.underlying39 rfl Bas.size ?_)
  refine (spec_IsPortfolio_any b A n cap H m hcap xs _ HBT.out HL.out hm HX.out HF.out).mono ?_
  rw [hp]
  rintro e w1 ⟨rfl, hb1⟩
  have HB1 := Lib.hid (HB.out.below' hb1)
  have HBT1 := Lib.hid (HBT.out.past hb1)
  have HX1 := Lib.hid (HX.out.past hb1)
  have hb01 := hbw.trans (hb1.mono hbw.size)
  go_wp2
  go_loopw [6, 7] (fun s i wr => ∃ k : Nat, k ≤ m ∧ i = .int .i64 k ∧ s = .int .i64 (bestIx (resL b xs) k) ∧ Below w1.heap.size w1 wr) (fun _ i _ => m - (intOf i).toNat)
  case atStart => exact ⟨0, by omega, rfl, rfl, Below.refl _ _⟩
  case round =>
    obtain ⟨k, hk, rfl, rfl, hb⟩ := hrel
    by_cases hlt : k < m
    · obtain ⟨x, hx⟩ := get_of_lt (xs := xs) (k := k) (by rw [HL.out]; exact hlt)
      have hqm := best_lt (ys := resL b xs) hpos k (by omega)
      have HE := Lib.hid (bestIx_succ (resL b xs) k)
      obtain ⟨q, hq⟩ : ∃ q, bestIx (resL b xs) k = q := ⟨_, rfl⟩
      rw [hq] at hqm HE ⊢
      clear hq
      obtain ⟨z, hzq⟩ := get_of_lt (xs := xs) (k := q) (by rw [HL.out]; exact hqm)
      rw [gd_get (resL_get (b := b) hx), gd_get (resL_get (b := b) hzq)] at HE
      obtain ⟨ad, rfl, had, _, hc⟩ := (HX1.out.past hb).at' (holdingRows_get hx)
      obtain ⟨ad2, e2, _, _, hc2⟩ := (HX1.out.past hb).at' (holdingRows_get hzq)
      obtain rfl : ad = ad2 := by injection e2
      have Hx := Lib.hid (HH.out x (List.mem_of_getElem? hx)); clear hx
      have Hz := Lib.hid (HH.out z (List.mem_of_getElem? hzq)); clear hzq e2
      have HBr := Lib.hid (HB1.out.below' hb)
      have HBTr := Lib.hid (HBT1.out.past hb)
      have hcB := Lib.hid (Blk.agg_past (cs := [.int .i64 b.first, .slice A n cap, .int .i64 b.rate]) HBr.out 0 [.int .i64 b.first, .slice A n cap, .int .i64 b.rate] rfl)
      have hcH := Lib.hid (Past.cells' hc); clear hc
      have hcZ := Lib.hid (Past.cells' hc2); clear hc2
      by_cases hgt : resV b z < resV b x
      · have HE2 := Lib.hid (HE.out.trans (if_pos hgt))
        go_wp2
        refine wp_region_past (by kernel_rfl) (by kernel_rfl) ?_
        repeat (first | (go_big_quiet_want; (first | (first | (refine quiet_load_agg 39 _ rfl ⟨w.heap.size, 0, none⟩ rfl [.int .i64 b.first, .slice A n cap, .int .i64 b.rate] hcB.out _ Try.underlying39 rfl Bas.size ?_) | (refine quiet_load_agg 56 _ rfl (ad.add (k * 7)) rfl x.row hcH.out _ Try.underlying56 rfl Holding.size ?_) | (refine quiet_load_agg 56 _ rfl (ad.add (q * 7)) rfl z.row hcZ.out _ Try.underlying56 rfl Holding.size ?_))); go_simp; go_big_quiet_on) | go_big_quiet_step ((go_at_call 84; exact past_call (spec_l17Reserve_any b A n cap _ _ (HBTr.out.at_past _) (by first | exact Hx.out | exact Hz.out)))))
        refine wpQuiet_nil ?_
        rintro _ ⟨y, rfl⟩
        go_wp2
        go_roundw
        case rel => exact ⟨k + 1, by omega, by go_num, by rw [HE2.out], hb.trans (y.2.mono hb.size)⟩
        case measure => simp [intOf]; omega
      · have HE2 := Lib.hid (HE.out.trans (if_neg hgt))
        go_wp2
        refine wp_region_past (by kernel_rfl) (by kernel_rfl) ?_
        repeat (first | (go_big_quiet_want; (first | (first | (refine quiet_load_agg 39 _ rfl ⟨w.heap.size, 0, none⟩ rfl [.int .i64 b.first, .slice A n cap, .int .i64 b.rate] hcB.out _ Try.underlying39 rfl Bas.size ?_) | (refine quiet_load_agg 56 _ rfl (ad.add (k * 7)) rfl x.row hcH.out _ Try.underlying56 rfl Holding.size ?_) | (refine quiet_load_agg 56 _ rfl (ad.add (q * 7)) rfl z.row hcZ.out _ Try.underlying56 rfl Holding.size ?_))); go_simp; go_big_quiet_on) | go_big_quiet_step ((go_at_call 84; exact past_call (spec_l17Reserve_any b A n cap _ _ (HBTr.out.at_past _) (by first | exact Hx.out | exact Hz.out)))))
        refine wpQuiet_nil ?_
        rintro _ ⟨y, rfl⟩
        go_wp2
        go_roundw
        case rel => exact ⟨k + 1, by omega, by go_num, by rw [HE2.out], hb.trans (y.2.mono hb.size)⟩
        case measure => simp [intOf]; omega
    · have hkn : k = m := by omega
      subst hkn
      go_wp2
      go_ret2
      exact ⟨by rw [Q.out]; rfl, hb01.trans (hb.mono hb01.size)⟩


set_option maxHeartbeats 4000000 in
theorem impl_LargestHolding_any (b : Bas) (A : Option Addr) (n cap : Nat) (H : Option Addr) (m hcap : Nat) (xs : List Holding) (w : World) (hB : BasT w A n cap b) (hl : xs.length = m) (hm : m ≤ 1048576) (hX : Rd w w.heap.size H 7 (holdingRows xs)) (hf : ∀ x ∈ xs, x.fits) :
    Calls Try.prog 41 #[.agg #[.int .i64 b.first, .slice A n cap, .int .i64 b.rate], .slice H m hcap] w fun e w' => e = .returned (.tuple #[.int .i64 (largeP b xs).1, .int .i64 (largeP b xs).2]) ∧ Below w.heap.size w w' := by
  have hbw : Below w.heap.size w (w.alloc (.cells #[.int .i64 b.first, .slice A n cap, .int .i64 b.rate] 39)) := (Below.refl _ w).alloc (Nat.le_refl _) _
  have HB := Lib.hid (Blk.new w 39 #[.int .i64 b.first, .slice A n cap, .int .i64 b.rate])
  have HBT := Lib.hid (hB.past hbw); clear hB
  have HX := Lib.hid (hX.past hbw); clear hX
  have HL := Lib.hid hl; clear hl
  have HF := Lib.hid hf; clear hf
  have hcB0 := Lib.hid (Blk.agg (cs := [.int .i64 b.first, .slice A n cap, .int .i64 b.rate]) HB.out 0 [.int .i64 b.first, .slice A n cap, .int .i64 b.rate] rfl)
  cases hp : portB b xs
  · have Q := Lib.hid (show largeP b xs = (0, 1) by simp [largeP, hp])
    go_enter Try.func41, Try.ntmps41
    go_wp2_with (refine wpList_load_agg rfl 39 _ rfl ⟨w.heap.size, 0, none⟩ rfl [.int .i64 b.first, .slice A n cap, .int .i64 b.rate] hcB0.out _ Try.underlying39 rfl Bas.size ?_)
    refine (impl_IsPortfolio_any b A n cap H m hcap xs _ HBT.out HL.out hm HX.out HF.out).mono ?_
    rw [hp]
    rintro e w1 ⟨rfl, hb1⟩
    go_wp2
    go_ret2
    exact ⟨by rw [Q.out]; rfl, hbw.trans (hb1.mono hbw.size)⟩
  obtain ⟨h30, hh⟩ := port_hold hp
  have HH := Lib.hid hh; clear hh
  have hm30 : m ≤ 30 := by have := HL.out; omega
  by_cases hm0 : m = 0
  · have Q := Lib.hid (show largeP b xs = (0, 4) by have h1 := HL.out; unfold largeP; rw [if_pos hp, if_pos (by omega)])
    have hz : ((m : Int) == 0) = true := by simp [hm0]
    clear hm0
    go_enter Try.func41, Try.ntmps41
    go_wp2_with (refine wpList_load_agg rfl 39 _ rfl ⟨w.heap.size, 0, none⟩ rfl [.int .i64 b.first, .slice A n cap, .int .i64 b.rate] hcB0.out _ Try.underlying39 rfl Bas.size ?_)
    refine (impl_IsPortfolio_any b A n cap H m hcap xs _ HBT.out HL.out hm HX.out HF.out).mono ?_
    rw [hp]
    rintro e w1 ⟨rfl, hb1⟩
    go_wp2
    go_ret2
    exact ⟨by rw [Q.out]; rfl, hbw.trans (hb1.mono hbw.size)⟩
  have hpos : 0 < m := by omega
  have hz : ((m : Int) == 0) = false := by simp; omega
  have Q := Lib.hid (show largeP b xs = ((bestIx (resL b xs) m : Int), 0) by
    have h1 := HL.out
    unfold largeP
    rw [if_pos hp, if_neg (by omega), h1])
  go_enter Try.func41, Try.ntmps41
  go_wp2_with (refine wpList_load_agg rfl 39 _ rfl ⟨w.heap.size, 0, none⟩ rfl [.int .i64 b.first, .slice A n cap, .int .i64 b.rate] hcB0.out _ Try.underlying39 rfl Bas.size ?_)
  refine (impl_IsPortfolio_any b A n cap H m hcap xs _ HBT.out HL.out hm HX.out HF.out).mono ?_
  rw [hp]
  rintro e w1 ⟨rfl, hb1⟩
  have HB1 := Lib.hid (HB.out.below' hb1)
  have HBT1 := Lib.hid (HBT.out.past hb1)
  have HX1 := Lib.hid (HX.out.past hb1)
  have hb01 := hbw.trans (hb1.mono hbw.size)
  have hcB1 := Lib.hid (Blk.agg (cs := [.int .i64 b.first, .slice A n cap, .int .i64 b.rate]) HB1.out 0 [.int .i64 b.first, .slice A n cap, .int .i64 b.rate] rfl)
  go_wp2_with (refine wpList_load_agg rfl 39 _ rfl ⟨w.heap.size, 0, none⟩ rfl [.int .i64 b.first, .slice A n cap, .int .i64 b.rate] hcB1.out _ Try.underlying39 rfl Bas.size ?_)
  refine (impl_reserves_any b A n cap H m hcap xs _ HBT1.out HL.out hm30 HX1.out HH.out).mono ?_
  rintro e w2 ⟨A', c', rfl, hR, hb2⟩
  have HR := Lib.hid hR.rd; clear hR
  have hb02 := hb01.trans (hb2.mono hb01.size)
  have HLL := Lib.hid (show (resL b xs).length = m by rw [resL, List.length_map]; exact HL.out)
  go_wp2_with fail
  refine (maxInts_any A' m c' (resL b xs) _ HLL.out hpos hm HR.out).mono ?_
  rintro e w3 ⟨rfl, rfl⟩
  go_wp2_with fail
  refine (indexInts_any A' m c' (resL b xs) _ (bestIx (resL b xs) m) _ HLL.out hm HR.out (best_lt hpos m (Nat.le_refl _)) rfl (fun j hj => by have := best_first (ys := resL b xs) m j hj; omega)).mono ?_
  rintro e w4 ⟨rfl, rfl⟩
  go_wp2
  go_ret2
  exact ⟨by rw [Q.out]; rfl, hb02⟩

end Go.Proofs.Ytkpppajihgnkcaa
