/- Portfolios: the program's contracts. -/
import Derived.Test.YthcnkcoplgdlkaaPolI5
import Derived.Test.YthcnkcoplgdlkaaPortS
namespace Go.Proofs.Ythcnkcoplgdlkaa
open Go.RowKit Go.BigFrame

theorem resParts_three (b : Bas) (p : Policy) (k : Int) : ∃ x y z : Int, resParts b p k = [.int .i64 x, .int .i64 y, .int .i64 z] := by
  unfold resParts; split <;> exact ⟨_, _, _, rfl⟩
theorem portB_any (b : Bas) (xs : List Holding) : portB b xs = (basisB b && (decide (xs.length ≤ 30) && !xs.any fun h => !holdB b h)) := by
  unfold portB; congr 2; induction xs with
  | nil => rfl
  | cons x r ih => simp [ih]
set_option maxHeartbeats 2000000 in
theorem impl_isHolding_any (b : Bas) (A : Option Addr) (n cap : Nat) (h : Holding) (w : World) (hB : BasT w A n cap b) (hf : h.fits) :
    Calls Try.prog 130 #[.agg #[.int .i64 b.first, .slice A n cap, .int .i64 b.rate], .agg h.row.toArray] w fun e w' => e = .returned (.bool (holdB b h)) ∧ Below w.heap.size w w' := by
  have hbw : Below w.heap.size w ((w.alloc (.cells #[.int .i64 b.first, .slice A n cap, .int .i64 b.rate] 32)).alloc (.cells #[.int .i64 h.kind, .int .i64 h.age, .int .i64 h.years, .int .i64 h.sum, .int .i64 h.load, .int .i64 h.year, .int .i64 h.count] 67)) := ((Below.refl _ w).alloc (Nat.le_refl _) _).alloc (by simp) _
  have HB := Lib.hid ((Blk.new w 32 #[.int .i64 b.first, .slice A n cap, .int .i64 b.rate]).alloc (.cells #[.int .i64 h.kind, .int .i64 h.age, .int .i64 h.years, .int .i64 h.sum, .int .i64 h.load, .int .i64 h.year, .int .i64 h.count] 67))
  have HH := Lib.hid (Blk.new (w.alloc (.cells #[.int .i64 b.first, .slice A n cap, .int .i64 b.rate] 32)) 67 #[.int .i64 h.kind, .int .i64 h.age, .int .i64 h.years, .int .i64 h.sum, .int .i64 h.load, .int .i64 h.year, .int .i64 h.count])
  rw [World.size_alloc] at HH
  have HBT := Lib.hid (hB.past hbw); clear hB
  have HF := Lib.hid (Holding.fits_pol hf); clear hf
  unfold Holding.row at *
  have hcB := Lib.hid (Blk.agg (cs := [.int .i64 b.first, .slice A n cap, .int .i64 b.rate]) HB.out 0 [.int .i64 b.first, .slice A n cap, .int .i64 b.rate] rfl)
  have hcP := Lib.hid (Blk.agg (cs := [.int .i64 h.kind, .int .i64 h.age, .int .i64 h.years, .int .i64 h.sum, .int .i64 h.load, .int .i64 h.year, .int .i64 h.count]) HH.out 0 [.int .i64 h.kind, .int .i64 h.age, .int .i64 h.years, .int .i64 h.sum, .int .i64 h.load] rfl)
  cases hcn : inR h.count 0 1000000
  · have Q := Lib.hid (show holdB b h = false by simp [holdB, hcn])
    go_enter Try.func130, Try.ntmps130
    go_wp2_with (first | (go_at_call 85; refine (impl_inRange_any _ _ _ _).mono ?_; rintro e w' ⟨rfl, rfl⟩))
    go_ret
    exact ⟨by rw [Q.out]; rfl, hbw⟩
  have Q := Lib.hid (show holdB b h = (resCode b h.pol h.year == 0) by simp [holdB, hcn])
  obtain ⟨x, y, z, he⟩ := resParts_three b h.pol h.year
  have HE := Lib.hid he; clear he
  go_enter Try.func130, Try.ntmps130
  go_wp2_with (first | (refine wpList_load_agg rfl 32 _ rfl ⟨w.heap.size, 0, none⟩ rfl [.int .i64 b.first, .slice A n cap, .int .i64 b.rate] hcB.out _ Try.underlying32 rfl Bas.size ?_) | (refine wpList_load_agg rfl 44 _ rfl ⟨w.heap.size + 1, 0, none⟩ rfl [.int .i64 h.kind, .int .i64 h.age, .int .i64 h.years, .int .i64 h.sum, .int .i64 h.load] hcP.out _ Try.underlying44 rfl Policy.size ?_) | (go_at_call 85; refine (impl_inRange_any _ _ _ _).mono ?_; rintro e w' ⟨rfl, rfl⟩))
  refine (impl_checkReserve_any b A n cap h.pol h.year _ HBT.out HF.out.1 HF.out.2.1).mono ?_
  rw [HE.out]
  rintro e w1 ⟨rfl, hb1⟩
  go_wp2
  go_ret
  exact ⟨by rw [Q.out]; first | rfl | simp, hbw.trans ((hb1.mono hbw.size).alloc (by have := hb1.size; have := hbw.size; omega) _)⟩

set_option maxHeartbeats 2000000 in
theorem impl_IsPortfolio1_any (b : Bas) (A : Option Addr) (n cap : Nat) (h : Holding) (g : Nat) (w : World) (hB : BasT w A n cap b) (hf : h.fits) (hG : Blk w g 32 #[.int .i64 b.first, .slice A n cap, .int .i64 b.rate]) :
    Calls Try.prog 129 #[.agg h.row.toArray, .pointer (some ⟨g, 0, none⟩)] w fun e w' => e = .returned (.bool (!holdB b h)) ∧ Below w.heap.size w w' := by
  have hbw : Below w.heap.size w (w.alloc (.cells #[.int .i64 h.kind, .int .i64 h.age, .int .i64 h.years, .int .i64 h.sum, .int .i64 h.load, .int .i64 h.year, .int .i64 h.count] 67)) := (Below.refl _ w).alloc (Nat.le_refl _) _
  have HB := Lib.hid (hG.alloc (.cells #[.int .i64 h.kind, .int .i64 h.age, .int .i64 h.years, .int .i64 h.sum, .int .i64 h.load, .int .i64 h.year, .int .i64 h.count] 67)); clear hG
  have HH := Lib.hid (Blk.new w 67 #[.int .i64 h.kind, .int .i64 h.age, .int .i64 h.years, .int .i64 h.sum, .int .i64 h.load, .int .i64 h.year, .int .i64 h.count])
  have HBT := Lib.hid (hB.past hbw); clear hB
  have HF := Lib.hid hf; clear hf
  unfold Holding.row at *
  have hcB := Lib.hid (Blk.agg (cs := [.int .i64 b.first, .slice A n cap, .int .i64 b.rate]) HB.out 0 [.int .i64 b.first, .slice A n cap, .int .i64 b.rate] rfl)
  have hcH := Lib.hid (Blk.agg (cs := [.int .i64 h.kind, .int .i64 h.age, .int .i64 h.years, .int .i64 h.sum, .int .i64 h.load, .int .i64 h.year, .int .i64 h.count]) HH.out 0 [.int .i64 h.kind, .int .i64 h.age, .int .i64 h.years, .int .i64 h.sum, .int .i64 h.load, .int .i64 h.year, .int .i64 h.count] rfl)
  go_enter Try.func129, Try.ntmps129
  go_wp2_with (first | (refine wpList_load_agg rfl 32 _ rfl ⟨g, 0, none⟩ rfl [.int .i64 b.first, .slice A n cap, .int .i64 b.rate] hcB.out _ Try.underlying32 rfl Bas.size ?_) | (refine wpList_load_agg rfl 67 _ rfl ⟨w.heap.size, 0, none⟩ rfl [.int .i64 h.kind, .int .i64 h.age, .int .i64 h.years, .int .i64 h.sum, .int .i64 h.load, .int .i64 h.year, .int .i64 h.count] hcH.out _ Try.underlying67 rfl Holding.size ?_))
  refine (impl_isHolding_any b A n cap h _ HBT.out HF.out).mono ?_
  rintro e w1 ⟨rfl, hb1⟩
  go_wp2
  go_ret
  exact ⟨rfl, hbw.trans (hb1.mono hbw.size)⟩

set_option maxHeartbeats 2000000 in
theorem indexHolding_any (b : Bas) (A : Option Addr) (n cap : Nat) (H : Option Addr) (m hcap : Nat) (xs : List Holding) (g : Nat) (w : World) (hB : BasT w A n cap b) (hl : xs.length = m) (hm : m ≤ 1048576) (hX : Rd w w.heap.size H 7 (holdingRows xs)) (hf : ∀ x ∈ xs, x.fits) (hG : Blk w g 32 #[.int .i64 b.first, .slice A n cap, .int .i64 b.rate]) :
    Calls Try.prog 184 #[.slice H m hcap, .func (.func 129) #[] #[.pointer (some ⟨g, 0, none⟩)]] w fun e w' => ∃ i : Int, e = .returned (.int .i64 i) ∧ (xs.any (fun h => !holdB b h) = decide (0 ≤ i)) ∧ Below w.heap.size w w' := by
  have HX := Lib.hid hX; clear hX
  have HL := Lib.hid hl; clear hl
  have HB := Lib.hid hG; clear hG
  have HBT := Lib.hid hB; clear hB
  have HF := Lib.hid hf; clear hf
  go_enter Try.func184, Try.ntmps184
  go_wp2
  go_loopw [8] (fun i wr => ∃ k : Nat, k ≤ m ∧ i = .int .i64 k ∧ (xs.take k).any (fun h => !holdB b h) = false ∧ Below w.heap.size w wr) (fun i _ => m - (intOf i).toNat)
  case atStart => exact ⟨0, by omega, rfl, rfl, Below.refl _ _⟩
  case round =>
    obtain ⟨k, hk, rfl, hany, hb⟩ := hrel
    have HA := Lib.hid hany; clear hany
    by_cases hlt : k < m
    · obtain ⟨x, hx⟩ := get_of_lt (xs := xs) (k := k) (by rw [HL.out]; exact hlt)
      obtain ⟨ad, rfl, had, _, hc⟩ := (HX.out.below hb).at' (holdingRows_get hx)
      have Hc := Lib.hid hc; clear hc
      have Hx := Lib.hid hx; clear hx
      go_wp2_with (refine wpList_load_agg rfl 67 _ rfl (ad.add (k * 7)) rfl x.row Hc.out _ Try.underlying67 rfl Holding.size ?_)
      refine (impl_IsPortfolio1_any b A n cap x g _ (HBT.out.past hb) (HF.out x (List.mem_of_getElem? Hx.out)) (HB.out.below' hb)).mono ?_
      rintro e w1 ⟨rfl, hb1⟩
      have hb2 : Below w.heap.size w w1 := hb.trans (hb1.mono hb.size)
      by_cases hp : holdB b x = true
      · go_wp2
        go_roundw
        case rel => exact ⟨k + 1, by omega, by go_num, any_succ HA.out Hx.out (by simp [hp]), hb2⟩
        case measure => simp [intOf]; omega
      · have hp' : holdB b x = false := by simpa using hp
        clear hp
        go_wp2
        go_ret
        exact ⟨_, rfl, by rw [any_stop Hx.out (by simp [hp'])]; simp, hb2⟩
    · have hkn : k = m := by omega
      subst hkn
      go_wp2
      go_ret
      exact ⟨_, rfl, by rw [any_end HL.out HA.out]; simp, hb⟩

theorem containsHolding_any (b : Bas) (A : Option Addr) (n cap : Nat) (H : Option Addr) (m hcap : Nat) (xs : List Holding) (g : Nat) (w : World) (hB : BasT w A n cap b) (hl : xs.length = m) (hm : m ≤ 1048576) (hX : Rd w w.heap.size H 7 (holdingRows xs)) (hf : ∀ x ∈ xs, x.fits) (hG : Blk w g 32 #[.int .i64 b.first, .slice A n cap, .int .i64 b.rate]) :
    Calls Try.prog 128 #[.slice H m hcap, .func (.func 129) #[] #[.pointer (some ⟨g, 0, none⟩)]] w fun e w' => e = .returned (.bool (xs.any fun h => !holdB b h)) ∧ Below w.heap.size w w' := by
  have HX := Lib.hid hX; clear hX
  have HL := Lib.hid hl; clear hl
  have HB := Lib.hid hG; clear hG
  have HBT := Lib.hid hB; clear hB
  have HF := Lib.hid hf; clear hf
  go_enter Try.func128, Try.ntmps128
  go_wp2_with fail
  refine (indexHolding_any b A n cap H m hcap xs g w HBT.out HL.out hm HX.out HF.out HB.out).mono ?_
  rintro e w1 ⟨i, rfl, hi, hb⟩
  have Hi := Lib.hid hi; clear hi
  go_wp2
  go_ret
  exact ⟨by rw [Hi.out]; rfl, hb⟩

set_option maxHeartbeats 2000000 in
theorem impl_IsPortfolio_any (b : Bas) (A : Option Addr) (n cap : Nat) (H : Option Addr) (m hcap : Nat) (xs : List Holding) (w : World) (hB : BasT w A n cap b) (hl : xs.length = m) (hm : m ≤ 1048576) (hX : Rd w w.heap.size H 7 (holdingRows xs)) (hf : ∀ x ∈ xs, x.fits) :
    Calls Try.prog 52 #[.agg #[.int .i64 b.first, .slice A n cap, .int .i64 b.rate], .slice H m hcap] w fun e w' => e = .returned (.bool (portB b xs)) ∧ Below w.heap.size w w' := by
  rw [portB_any]
  have hbw : Below w.heap.size w (w.alloc (.cells #[.int .i64 b.first, .slice A n cap, .int .i64 b.rate] 32)) := (Below.refl _ w).alloc (Nat.le_refl _) _
  have HB := Lib.hid (Blk.new w 32 #[.int .i64 b.first, .slice A n cap, .int .i64 b.rate])
  have HBT := Lib.hid (hB.past hbw); clear hB
  have HX := Lib.hid (hX.past hbw); clear hX
  have HF := Lib.hid hf; clear hf
  have hcB := Lib.hid (Blk.agg (cs := [.int .i64 b.first, .slice A n cap, .int .i64 b.rate]) HB.out 0 [.int .i64 b.first, .slice A n cap, .int .i64 b.rate] rfl)
  have HL := Lib.hid hl
  cases hbb : basisB b
  · go_enter Try.func52, Try.ntmps52
    go_wp2_with (refine wpList_load_agg rfl 32 _ rfl ⟨w.heap.size, 0, none⟩ rfl [.int .i64 b.first, .slice A n cap, .int .i64 b.rate] hcB.out _ Try.underlying32 rfl Bas.size ?_)
    refine (impl_IsBasis_any b A n cap _ HBT.out).mono ?_
    rw [hbb]
    rintro e w1 ⟨rfl, hb1⟩
    go_wp2
    go_ret
    exact ⟨by first | rfl | simp, hbw.trans (hb1.mono hbw.size)⟩
  by_cases h : m ≤ 30
  · have Q := Lib.hid (show (decide (xs.length ≤ 30) && !xs.any fun h => !holdB b h) = !xs.any fun h => !holdB b h by simp [hl, h])
    clear hl
    go_enter Try.func52, Try.ntmps52
    go_wp2_with (refine wpList_load_agg rfl 32 _ rfl ⟨w.heap.size, 0, none⟩ rfl [.int .i64 b.first, .slice A n cap, .int .i64 b.rate] hcB.out _ Try.underlying32 rfl Bas.size ?_)
    refine (impl_IsBasis_any b A n cap _ HBT.out).mono ?_
    rw [hbb]
    rintro e w1 ⟨rfl, hb1⟩
    have hb01 := hbw.trans (hb1.mono hbw.size)
    go_wp2_with fail
    refine (containsHolding_any b A n cap H m hcap xs w.heap.size _ (HBT.out.past hb1) HL.out hm (HX.out.past hb1) HF.out (HB.out.below' hb1)).mono ?_
    rintro e w2 ⟨rfl, hb2⟩
    go_wp2
    go_ret
    exact ⟨by (try rw [Bool.true_and]); rw [Q.out]; first | rfl | simp, hb01.trans (hb2.mono hb01.size)⟩
  · have Q := Lib.hid (show (decide (xs.length ≤ 30) && !xs.any fun h => !holdB b h) = false by simp [hl, h])
    clear hl
    go_enter Try.func52, Try.ntmps52
    go_wp2_with (refine wpList_load_agg rfl 32 _ rfl ⟨w.heap.size, 0, none⟩ rfl [.int .i64 b.first, .slice A n cap, .int .i64 b.rate] hcB.out _ Try.underlying32 rfl Bas.size ?_)
    refine (impl_IsBasis_any b A n cap _ HBT.out).mono ?_
    rw [hbb]
    rintro e w1 ⟨rfl, hb1⟩
    go_wp2
    go_ret
    exact ⟨by (try rw [Bool.true_and]); rw [Q.out]; rfl, hbw.trans (hb1.mono hbw.size)⟩

end Go.Proofs.Ythcnkcoplgdlkaa
