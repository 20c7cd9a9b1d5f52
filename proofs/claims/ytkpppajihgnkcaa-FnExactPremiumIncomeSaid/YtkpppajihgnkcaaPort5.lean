/- The premium income of a portfolio: the program's and the reference's contracts. -/
import Derived.Test.YtkpppajihgnkcaaPort4
namespace Go.Proofs.Ytkpppajihgnkcaa
open Go.RowKit Go.BigFrame

def netV (b : Bas) (h : Holding) : Int := h.count * netP b h.pol
def loadV (b : Bas) (h : Holding) : Int := h.count * (officeP b h.pol - netP b h.pol)
def netL (b : Bas) (xs : List Holding) : List Int := xs.map (netV b)
def loadL (b : Bas) (xs : List Holding) : List Int := xs.map (loadV b)
theorem netL_get {b : Bas} {xs : List Holding} {k : Nat} {x : Holding} (h : xs[k]? = some x) : (netL b xs)[k]? = some (x.count * netP b x.pol) := by simp [netL, netV, h]
theorem loadL_get {b : Bas} {xs : List Holding} {k : Nat} {x : Holding} (h : xs[k]? = some x) : (loadL b xs)[k]? = some (x.count * (officeP b x.pol - netP b x.pol)) := by simp [loadL, loadV, h]
theorem prem_bound {b : Bas} {h : Holding} (H : holdB b h = true) : (0 ≤ netP b h.pol ∧ netP b h.pol ≤ 100000000) ∧ (0 ≤ officeP b h.pol - netP b h.pol ∧ officeP b h.pol - netP b h.pol ≤ 200000000) ∧ (0 ≤ h.count * netP b h.pol ∧ h.count * netP b h.pol ≤ 200000000000000) ∧ (0 ≤ h.count * (officeP b h.pol - netP b h.pol) ∧ h.count * (officeP b h.pol - netP b h.pol) ≤ 200000000000000) := by
  obtain ⟨⟨c0, c1⟩, Y⟩ := hold_ok H
  have n1 := net_bound Y.toPolOk
  have o1 := office_bound Y.toPolOk
  have g : ∀ z : Int, 0 ≤ z → z ≤ 200000000 → 0 ≤ h.count * z ∧ h.count * z ≤ 200000000000000 := fun z z0 z1 => by
    refine ⟨Int.mul_nonneg c0 z0, ?_⟩
    have := Int.mul_le_mul c1 z1 z0 (by omega)
    omega
  exact ⟨n1, ⟨by omega, by omega⟩, g _ n1.1 (by omega), g _ (by omega) (by omega)⟩
theorem netL_sums {b : Bas} {xs : List Holding} (hl : xs.length ≤ 30) (hh : ∀ x ∈ xs, holdB b x = true) : Sums (netL b xs) :=
  (sums_of (n := 30) (hi := 200000000000000) (by omega) (by simpa [netL] using hl) (fun v hv => by
    obtain ⟨x, hx, rfl⟩ := List.mem_map.1 hv
    exact (prem_bound (hh x hx)).2.2.1) (by omega)).1
theorem loadL_sums {b : Bas} {xs : List Holding} (hl : xs.length ≤ 30) (hh : ∀ x ∈ xs, holdB b x = true) : Sums (loadL b xs) :=
  (sums_of (n := 30) (hi := 200000000000000) (by omega) (by simpa [loadL] using hl) (fun v hv => by
    obtain ⟨x, hx, rfl⟩ := List.mem_map.1 hv
    exact (prem_bound (hh x hx)).2.2.2) (by omega)).1
def incP (b : Bas) (xs : List Holding) : Int × Int × Int := if portB b xs = true then ((netL b xs).sum, (loadL b xs).sum, 0) else (0, 0, 1)

set_option maxHeartbeats 8000000 in
theorem spec_PremiumIncome_any (b : Bas) (A : Option Addr) (n cap : Nat) (H : Option Addr) (m hcap : Nat) (xs : List Holding) (w : World) (hB : BasT w A n cap b) (hl : xs.length = m) (hm : m ≤ 1048576) (hX : Rd w w.heap.size H 7 (holdingRows xs)) (hf : ∀ x ∈ xs, x.fits) :
    Calls Try.prog 34 #[.agg #[.int .i64 b.first, .slice A n cap, .int .i64 b.rate], .slice H m hcap] w fun e w' => e = .returned (.tuple #[.int .i64 (incP b xs).1, .int .i64 (incP b xs).2.1, .int .i64 (incP b xs).2.2]) ∧ Below w.heap.size w w' := by
  have hbw : Below w.heap.size w (w.alloc (.cells #[.int .i64 b.first, .slice A n cap, .int .i64 b.rate] 39)) := (Below.refl _ w).alloc (Nat.le_refl _) _
  have HB := Lib.hid (Blk.new w 39 #[.int .i64 b.first, .slice A n cap, .int .i64 b.rate])
  have HBT := Lib.hid (hB.past hbw); clear hB
  have HX := Lib.hid (hX.past hbw); clear hX
  have HL := Lib.hid hl; clear hl
  have HF := Lib.hid hf; clear hf
  have hcB0 := Lib.hid (Blk.agg (cs := [.int .i64 b.first, .slice A n cap, .int .i64 b.rate]) HB.out 0 [.int .i64 b.first, .slice A n cap, .int .i64 b.rate] rfl)
  cases hp : portB b xs
  · have Q := Lib.hid (show incP b xs = (0, 0, 1) by simp [incP, hp])
    go_enter Try.func34, Try.ntmps34
    go_wp2_with (refine wpList_load_agg rfl 39 _ rfl ⟨w.heap.size, 0, none⟩ rfl [.int .i64 b.first, .slice A n cap, .int .i64 b.rate] hcB0.out _ Try.underlying39 rfl Bas.size ?_)
    refine (spec_IsPortfolio_any b A n cap H m hcap xs _ HBT.out HL.out hm HX.out HF.out).mono ?_
    rw [hp]
    rintro e w1 ⟨rfl, hb1⟩
    go_wp2
    go_ret3
    exact ⟨by rw [Q.out]; rfl, hbw.trans (hb1.mono hbw.size)⟩
  obtain ⟨h30, hh⟩ := port_hold hp
  have HS := Lib.hid (netL_sums h30 hh)
  have HS2 := Lib.hid (loadL_sums h30 hh)
  have HH := Lib.hid hh; clear hh h30
  have Q := Lib.hid (show incP b xs = ((netL b xs).sum, (loadL b xs).sum, 0) by simp [incP, hp])
  go_enter Try.func34, Try.ntmps34
  go_wp2_with (refine wpList_load_agg rfl 39 _ rfl ⟨w.heap.size, 0, none⟩ rfl [.int .i64 b.first, .slice A n cap, .int .i64 b.rate] hcB0.out _ Try.underlying39 rfl Bas.size ?_)
  refine (spec_IsPortfolio_any b A n cap H m hcap xs _ HBT.out HL.out hm HX.out HF.out).mono ?_
  rw [hp]
  rintro e w1 ⟨rfl, hb1⟩
  have HB1 := Lib.hid (HB.out.below' hb1)
  have HBT1 := Lib.hid (HBT.out.past hb1)
  have HX1 := Lib.hid (HX.out.past hb1)
  have hb01 := hbw.trans (hb1.mono hbw.size)
  go_wp2
  go_loopw [7, 8, 9] (fun s t i wr => ∃ k : Nat, k ≤ m ∧ i = .int .i64 k ∧ s = .int .i64 ((netL b xs).take k).sum ∧ t = .int .i64 ((loadL b xs).take k).sum ∧ Below w1.heap.size w1 wr) (fun _ _ i _ => m - (intOf i).toNat)
  case atStart => exact ⟨0, by omega, rfl, rfl, rfl, Below.refl _ _⟩
  case round =>
    obtain ⟨k, hk, rfl, rfl, rfl, hb⟩ := hrel
    by_cases hlt : k < m
    · obtain ⟨x, hx⟩ := get_of_lt (xs := xs) (k := k) (by rw [HL.out]; exact hlt)
      obtain ⟨ad, rfl, had, _, hc⟩ := (HX1.out.past hb).at' (holdingRows_get hx)
      have HE := Lib.hid (sum_snoc (netL_get (b := b) hx))
      have HE2 := Lib.hid (sum_snoc (loadL_get (b := b) hx))
      have Hx := Lib.hid (HH.out x (List.mem_of_getElem? hx)); clear hx
      have hbd := HS.out (k + 1)
      rw [HE.out] at hbd
      have hbd2 := HS2.out (k + 1)
      rw [HE2.out] at hbd2
      obtain ⟨b1, b2⟩ := hbd
      obtain ⟨b3, b4⟩ := hbd2
      obtain ⟨⟨p1, p2⟩, ⟨p3, p4⟩, ⟨p5, p6⟩, p7, p8⟩ := prem_bound Hx.out
      have HP := Lib.hid (pol_ok (hold_pol Hx.out))
      have HBr := Lib.hid (HB1.out.below' hb)
      have HBTr := Lib.hid (HBT1.out.past hb)
      have hcB := Lib.hid (Blk.agg_past (cs := [.int .i64 b.first, .slice A n cap, .int .i64 b.rate]) HBr.out 0 [.int .i64 b.first, .slice A n cap, .int .i64 b.rate] rfl)
      have hcQ := Lib.hid (Past.cells' (Holding.pol_cells hc))
      have c6 := (Holding.cells hc).2.2.2.2.2.2
      have Hc := Lib.hid hc; clear hc
      have d6 := fun y : Past wr => Past.cell c6 y
      clear c6
      go_wp2
      refine wp_region_past (by kernel_rfl) (by kernel_rfl) ?_
      repeat (first | (go_big_quiet_want; (first | (first | (refine quiet_load_agg 39 _ rfl ⟨w.heap.size, 0, none⟩ rfl [.int .i64 b.first, .slice A n cap, .int .i64 b.rate] hcB.out _ Try.underlying39 rfl Bas.size ?_) | (refine quiet_load_agg 54 _ rfl (ad.add (k * 7)) rfl x.pol.row hcQ.out _ Try.underlying54 rfl Policy.size ?_))); go_simp; go_big_quiet_on) | go_big_quiet_step ((go_at_call 80; exact past_call (spec_l10Net_any b A n cap x.pol _ (HBTr.out.at_past _) HP.out))))
      refine wpQuiet_nil ?_
      rintro _ ⟨y, rfl⟩
      have e6 := d6 y
      have hcQ2 := Lib.hid (Past.cells' (Holding.pol_cells (fun j v hv => (Past.cells' Hc.out) y.1 ⟨y, rfl⟩ j v hv)))
      have hcB2 := Lib.hid (Blk.agg_past (cs := [.int .i64 b.first, .slice A n cap, .int .i64 b.rate]) (HBr.out.below' y.2) 0 [.int .i64 b.first, .slice A n cap, .int .i64 b.rate] rfl)
      have HBTy := Lib.hid (HBTr.out.past y.2)
      have f6 := fun z : Past y.1 => Past.cell e6 z
      clear d6
      go_wp2
      refine wp_region_past (by kernel_rfl) (by kernel_rfl) ?_
      repeat (first | (go_big_quiet_want; (first | (first | (refine quiet_load_agg 39 _ rfl ⟨w.heap.size, 0, none⟩ rfl [.int .i64 b.first, .slice A n cap, .int .i64 b.rate] hcB2.out _ Try.underlying39 rfl Bas.size ?_) | (refine quiet_load_agg 54 _ rfl (ad.add (k * 7)) rfl x.pol.row hcQ2.out _ Try.underlying54 rfl Policy.size ?_))); go_simp; go_big_quiet_on) | go_big_quiet_step ((go_at_call 81; exact past_call (spec_l10Office_any b A n cap x.pol _ (HBTy.out.at_past _) HP.out))))
      refine wpQuiet_nil ?_
      rintro _ ⟨z, rfl⟩
      go_wp2
      go_roundw
      case rel => exact ⟨k + 1, by omega, by go_num, by rw [HE.out], by rw [HE2.out], (hb.trans (y.2.mono hb.size)).trans (z.2.mono (Nat.le_trans hb.size y.2.size))⟩
      case measure => simp [intOf]; omega
    · have hkn : k = m := by omega
      subst hkn
      go_wp2
      go_ret3
      exact ⟨by rw [Q.out, take_all (by rw [netL, List.length_map]; exact HL.out), take_all (by rw [loadL, List.length_map]; exact HL.out)]; rfl, hb01.trans (hb.mono hb01.size)⟩

set_option maxHeartbeats 8000000 in
theorem impl_premiumIncome_any (b : Bas) (A : Option Addr) (n cap : Nat) (H : Option Addr) (m hcap : Nat) (xs : List Holding) (w : World) (hB : BasT w A n cap b) (hl : xs.length = m) (hm : m ≤ 30) (hX : Rd w w.heap.size H 7 (holdingRows xs)) (hh : ∀ x ∈ xs, holdB b x = true) :
    Calls Try.prog 82 #[.agg #[.int .i64 b.first, .slice A n cap, .int .i64 b.rate], .slice H m hcap] w fun e w' => e = .returned (.tuple #[.int .i64 (netL b xs).sum, .int .i64 (loadL b xs).sum]) ∧ Below w.heap.size w w' := by
  have hbw : Below w.heap.size w (w.alloc (.cells #[.int .i64 b.first, .slice A n cap, .int .i64 b.rate] 39)) := (Below.refl _ w).alloc (Nat.le_refl _) _
  have HB := Lib.hid (Blk.new w 39 #[.int .i64 b.first, .slice A n cap, .int .i64 b.rate])
  have HBT := Lib.hid (hB.past hbw); clear hB
  have HX := Lib.hid (hX.past hbw); clear hX
  have HL := Lib.hid hl; clear hl
  have h30 : xs.length ≤ 30 := by have := HL.out; omega
  have HS := Lib.hid (netL_sums h30 hh)
  have HS2 := Lib.hid (loadL_sums h30 hh)
  have HH := Lib.hid hh; clear hh h30
  go_enter Try.func82, Try.ntmps82
  go_wp2
  go_loopw [6, 7, 13] (fun s t i wr => ∃ k : Nat, k ≤ m ∧ i = .int .i64 k ∧ s = .int .i64 ((netL b xs).take k).sum ∧ t = .int .i64 ((loadL b xs).take k).sum ∧ Below (w.alloc (.cells #[.int .i64 b.first, .slice A n cap, .int .i64 b.rate] 39)).heap.size (w.alloc (.cells #[.int .i64 b.first, .slice A n cap, .int .i64 b.rate] 39)) wr) (fun _ _ i _ => m - (intOf i).toNat)
  case atStart => exact ⟨0, by omega, rfl, rfl, rfl, Below.refl _ _⟩
  case round =>
    obtain ⟨k, hk, rfl, rfl, rfl, hb⟩ := hrel
    by_cases hlt : k < m
    · obtain ⟨x, hx⟩ := get_of_lt (xs := xs) (k := k) (by rw [HL.out]; exact hlt)
      obtain ⟨ad, rfl, had, _, hc⟩ := (HX.out.past hb).at' (holdingRows_get hx)
      have HE := Lib.hid (sum_snoc (netL_get (b := b) hx))
      have HE2 := Lib.hid (sum_snoc (loadL_get (b := b) hx))
      have Hx := Lib.hid (HH.out x (List.mem_of_getElem? hx)); clear hx
      have Hc := Lib.hid hc; clear hc
      have hbd := HS.out (k + 1)
      rw [HE.out] at hbd
      have hbd2 := HS2.out (k + 1)
      rw [HE2.out] at hbd2
      obtain ⟨b1, b2⟩ := hbd
      obtain ⟨b3, b4⟩ := hbd2
      obtain ⟨⟨p1, p2⟩, ⟨p3, p4⟩, ⟨p5, p6⟩, p7, p8⟩ := prem_bound Hx.out
      have HP := Lib.hid (hold_pol Hx.out)
      have hbn : Below wr.heap.size wr (wr.alloc (.cells #[.int .i64 x.kind, .int .i64 x.age, .int .i64 x.years, .int .i64 x.sum, .int .i64 x.load, .int .i64 x.year, .int .i64 x.count] 56)) := (Below.refl _ wr).alloc (Nat.le_refl _) _
      have HBn := Lib.hid ((HB.out.below' hb).below' hbn)
      have HNn := Lib.hid (Blk.new wr 56 #[.int .i64 x.kind, .int .i64 x.age, .int .i64 x.years, .int .i64 x.sum, .int .i64 x.load, .int .i64 x.year, .int .i64 x.count])
      have HBTn := Lib.hid ((HBT.out.past hb).past hbn)
      have hcB := Lib.hid (Blk.agg (cs := [.int .i64 b.first, .slice A n cap, .int .i64 b.rate]) HBn.out 0 [.int .i64 b.first, .slice A n cap, .int .i64 b.rate] rfl)
      have hcP := Lib.hid (Blk.agg (cs := [.int .i64 x.kind, .int .i64 x.age, .int .i64 x.years, .int .i64 x.sum, .int .i64 x.load, .int .i64 x.year, .int .i64 x.count]) HNn.out 0 [.int .i64 x.kind, .int .i64 x.age, .int .i64 x.years, .int .i64 x.sum, .int .i64 x.load] rfl)
      go_wp2_with (first | (refine wpList_load_agg rfl 56 _ rfl (ad.add (k * 7)) rfl [.int .i64 x.kind, .int .i64 x.age, .int .i64 x.years, .int .i64 x.sum, .int .i64 x.load, .int .i64 x.year, .int .i64 x.count] Hc.out _ Try.underlying56 rfl Holding.size ?_) | (refine wpList_load_agg rfl 39 _ rfl ⟨w.heap.size, 0, none⟩ rfl [.int .i64 b.first, .slice A n cap, .int .i64 b.rate] hcB.out _ Try.underlying39 rfl Bas.size ?_) | (refine wpList_load_agg rfl 54 _ rfl ⟨wr.heap.size, 0, none⟩ rfl [.int .i64 x.kind, .int .i64 x.age, .int .i64 x.years, .int .i64 x.sum, .int .i64 x.load] hcP.out _ Try.underlying54 rfl Policy.size ?_))
      refine (impl_netPremium_any b A n cap x.pol _ HBTn.out HP.out).mono ?_
      rintro e w2 ⟨rfl, hb2⟩
      have hbm := hbn.trans (hb2.mono hbn.size)
      have hb6 := hb.trans (hbm.mono hb.size)
      have HB2 := Lib.hid (HBn.out.below' hb2)
      have HN2 := Lib.hid (HNn.out.below' hb2)
      have HBT2 := Lib.hid (HBTn.out.past hb2)
      have c6 : w2.cell? ⟨wr.heap.size, 6, none⟩ = some (.int .i64 x.count) := HN2.out.cell 6
      have d6 := fun y : Past w2 => Past.cell c6 y
      clear hcB hcP
      have hcB := Lib.hid (Blk.agg_past (cs := [.int .i64 b.first, .slice A n cap, .int .i64 b.rate]) HB2.out 0 [.int .i64 b.first, .slice A n cap, .int .i64 b.rate] rfl)
      have hcP := Lib.hid (Blk.agg_past (cs := [.int .i64 x.kind, .int .i64 x.age, .int .i64 x.years, .int .i64 x.sum, .int .i64 x.load, .int .i64 x.year, .int .i64 x.count]) HN2.out 0 [.int .i64 x.kind, .int .i64 x.age, .int .i64 x.years, .int .i64 x.sum, .int .i64 x.load] rfl)
      go_wp2
      refine wp_region_past (by kernel_rfl) (by kernel_rfl) ?_
      repeat (first | (go_big_quiet_want; (first | (first | (refine quiet_load_agg 39 _ rfl ⟨w.heap.size, 0, none⟩ rfl [.int .i64 b.first, .slice A n cap, .int .i64 b.rate] hcB.out _ Try.underlying39 rfl Bas.size ?_) | (refine quiet_load_agg 54 _ rfl ⟨wr.heap.size, 0, none⟩ rfl [.int .i64 x.kind, .int .i64 x.age, .int .i64 x.years, .int .i64 x.sum, .int .i64 x.load] hcP.out _ Try.underlying54 rfl Policy.size ?_))); go_simp; go_big_quiet_on) | go_big_quiet_step ((go_at_call 117; exact past_call (impl_officePremium_any b A n cap x.pol _ (HBT2.out.at_past _) HP.out))))
      refine wpQuiet_nil ?_
      rintro _ ⟨y, rfl⟩
      go_wp2
      go_roundw
      case rel => exact ⟨k + 1, by omega, by go_num, by rw [HE.out], by rw [HE2.out], hb6.trans (y.2.mono hb6.size)⟩
      case measure => simp [intOf]; omega
    · have hkn : k = m := by omega
      subst hkn
      go_wp2
      go_ret2
      exact ⟨by rw [take_all (by rw [netL, List.length_map]; exact HL.out), take_all (by rw [loadL, List.length_map]; exact HL.out)]; rfl, hbw.trans (hb.mono hbw.size)⟩

set_option maxHeartbeats 4000000 in
theorem impl_PremiumIncome_any (b : Bas) (A : Option Addr) (n cap : Nat) (H : Option Addr) (m hcap : Nat) (xs : List Holding) (w : World) (hB : BasT w A n cap b) (hl : xs.length = m) (hm : m ≤ 1048576) (hX : Rd w w.heap.size H 7 (holdingRows xs)) (hf : ∀ x ∈ xs, x.fits) :
    Calls Try.prog 36 #[.agg #[.int .i64 b.first, .slice A n cap, .int .i64 b.rate], .slice H m hcap] w fun e w' => e = .returned (.tuple #[.int .i64 (incP b xs).1, .int .i64 (incP b xs).2.1, .int .i64 (incP b xs).2.2]) ∧ Below w.heap.size w w' := by
  have hbw : Below w.heap.size w (w.alloc (.cells #[.int .i64 b.first, .slice A n cap, .int .i64 b.rate] 39)) := (Below.refl _ w).alloc (Nat.le_refl _) _
  have HB := Lib.hid (Blk.new w 39 #[.int .i64 b.first, .slice A n cap, .int .i64 b.rate])
  have HBT := Lib.hid (hB.past hbw); clear hB
  have HX := Lib.hid (hX.past hbw); clear hX
  have HL := Lib.hid hl; clear hl
  have HF := Lib.hid hf; clear hf
  have hcB0 := Lib.hid (Blk.agg (cs := [.int .i64 b.first, .slice A n cap, .int .i64 b.rate]) HB.out 0 [.int .i64 b.first, .slice A n cap, .int .i64 b.rate] rfl)
  cases hp : portB b xs
  · have Q := Lib.hid (show incP b xs = (0, 0, 1) by simp [incP, hp])
    go_enter Try.func36, Try.ntmps36
    go_wp2_with (refine wpList_load_agg rfl 39 _ rfl ⟨w.heap.size, 0, none⟩ rfl [.int .i64 b.first, .slice A n cap, .int .i64 b.rate] hcB0.out _ Try.underlying39 rfl Bas.size ?_)
    refine (impl_IsPortfolio_any b A n cap H m hcap xs _ HBT.out HL.out hm HX.out HF.out).mono ?_
    rw [hp]
    rintro e w1 ⟨rfl, hb1⟩
    go_wp2
    go_ret3
    exact ⟨by rw [Q.out]; rfl, hbw.trans (hb1.mono hbw.size)⟩
  obtain ⟨h30, hh⟩ := port_hold hp
  have HH := Lib.hid hh; clear hh
  have hm30 : m ≤ 30 := by have := HL.out; omega
  have Q := Lib.hid (show incP b xs = ((netL b xs).sum, (loadL b xs).sum, 0) by simp [incP, hp])
  go_enter Try.func36, Try.ntmps36
  go_wp2_with (refine wpList_load_agg rfl 39 _ rfl ⟨w.heap.size, 0, none⟩ rfl [.int .i64 b.first, .slice A n cap, .int .i64 b.rate] hcB0.out _ Try.underlying39 rfl Bas.size ?_)
  refine (impl_IsPortfolio_any b A n cap H m hcap xs _ HBT.out HL.out hm HX.out HF.out).mono ?_
  rw [hp]
  rintro e w1 ⟨rfl, hb1⟩
  have HBT1 := Lib.hid (HBT.out.past hb1)
  have HX1 := Lib.hid (HX.out.past hb1)
  have hb01 := hbw.trans (hb1.mono hbw.size)
  have hcB1 := Lib.hid (Blk.agg (cs := [.int .i64 b.first, .slice A n cap, .int .i64 b.rate]) (HB.out.below' hb1) 0 [.int .i64 b.first, .slice A n cap, .int .i64 b.rate] rfl)
  go_wp2_with (refine wpList_load_agg rfl 39 _ rfl ⟨w.heap.size, 0, none⟩ rfl [.int .i64 b.first, .slice A n cap, .int .i64 b.rate] hcB1.out _ Try.underlying39 rfl Bas.size ?_)
  refine (impl_premiumIncome_any b A n cap H m hcap xs _ HBT1.out HL.out hm30 HX1.out HH.out).mono ?_
  rintro e w2 ⟨rfl, hb2⟩
  go_wp2
  go_ret3
  exact ⟨by rw [Q.out]; rfl, hb01.trans (hb2.mono hb01.size)⟩

end Go.Proofs.Ytkpppajihgnkcaa
