/- Parts of a proof, one after another: Solv, Worst. No condition. -/
import Derived.Test.YtbjdbpdgacfcpaaGreatK14
import Derived.Test.YtbjdbpdgacfcpaaGreatK17
/- The money that misses, the rate of solvency: the program's and the reference's contracts. -/
section
namespace Go.Proofs.YtbjdbpdgacfcpaaGreat
open Go.RowKit Go.BigFrame

def reqFor (b : Bas) (xs : List Holding) (r : Scenario) (f : Int) : Int × Int := reqIn b xs r (inR f 0 1000000000000)
def missP (b : Bas) (xs : List Holding) (r : Scenario) (f : Int) : Int × Int := if (reqFor b xs r f).2 = 0 then (max 0 ((reqFor b xs r f).1 - f), 0) else (0, (reqFor b xs r f).2)
def solvP (b : Bas) (xs : List Holding) (r : Scenario) (f : Int) : Int × Int :=
  if (reqFor b xs r f).2 = 0 then (if (reqFor b xs r f).1 = 0 then (0, 4) else (if f * 1000 / (reqFor b xs r f).1 ≤ 1000000000000 then (f * 1000 / (reqFor b xs r f).1, 0) else (0, 3))) else (0, (reqFor b xs r f).2)
theorem reqIn_bound (b : Bas) (xs : List Holding) (r : Scenario) (i : Bool) : (0 ≤ (reqIn b xs r i).1 ∧ (reqIn b xs r i).1 ≤ 4000000000000000) ∧ ((reqIn b xs r i).2 = 0 ∨ (reqIn b xs r i).2 = 1 ∨ (reqIn b xs r i).2 = 2 ∨ (reqIn b xs r i).2 = 5) ∧ (i = false → (reqIn b xs r i).2 ≠ 0) := by
  unfold reqIn
  split
  · rename_i hp
    split
    · rename_i hs
      split
      · rename_i hp2
        have h := (reqL_sums (port_hold hp).1 (port_hold hp).2 (port_hold hp2).2).2
        refine ⟨by simp only; omega, .inl rfl, fun hi => ?_⟩
        subst hi; simp at hs
      · refine ⟨by simp, by simp, by simp⟩
    · refine ⟨by simp, by simp, by simp⟩
  · refine ⟨by simp, by simp, by simp⟩
theorem reqFor_fund {b : Bas} {xs : List Holding} {r : Scenario} {f : Int} (h : (reqFor b xs r f).2 = 0) : 0 ≤ f ∧ f ≤ 1000000000000 := by
  have h1 := (reqIn_bound b xs r (inR f 0 1000000000000)).2.2
  cases hi : inR f 0 1000000000000
  · unfold reqFor at h; rw [hi] at h h1; exact absurd h (h1 rfl)
  · exact inR_true.1 hi
theorem rate_parts {f n : Int} (hf : 0 ≤ f ∧ f ≤ 1000000000000) (hn : 1 ≤ n) : 0 ≤ f * 1000 / n ∧ f * 1000 / n ≤ 1000000000000000 := by
  have h1 := Int.ediv_nonneg (show 0 ≤ f * 1000 by omega) (show 0 ≤ n by omega)
  have h2 := Int.ediv_le_self n (show 0 ≤ f * 1000 by omega)
  omega

set_option maxHeartbeats 4000000 in
theorem impl_requiredFor_any (b : Bas) (A : Option Addr) (n cap : Nat) (H : Option Addr) (m hcap : Nat) (xs : List Holding) (r : Scenario) (f : Int) (w : World) (hB : BasT w A n cap b) (hl : xs.length = m) (hm : m ≤ 1048576) (hX : Rd w w.heap.size H 7 (holdingRows xs)) (hf : ∀ x ∈ xs, x.fits) (_hr : r.fits) :
    Calls Tryz.prog 100 #[.agg #[.int .i64 b.first, .slice A n cap, .int .i64 b.rate], .slice H m hcap, .agg r.row.toArray, .int .i64 f] w fun e w' => e = .returned (.tuple #[.int .i64 (reqFor b xs r f).1, .int .i64 (reqFor b xs r f).2]) ∧ Below w.heap.size w w' := by
  have hbw : Below w.heap.size w ((w.alloc (.cells #[.int .i64 b.first, .slice A n cap, .int .i64 b.rate] 28)).alloc (.cells #[.int .i64 r.rate, .int .i64 r.death] 31)) := ((Below.refl _ w).alloc (Nat.le_refl _) _).alloc (by simp) _
  have HB := Lib.hid ((Blk.new w 28 #[.int .i64 b.first, .slice A n cap, .int .i64 b.rate]).alloc (.cells #[.int .i64 r.rate, .int .i64 r.death] 31))
  have HC := Lib.hid (Blk.new (w.alloc (.cells #[.int .i64 b.first, .slice A n cap, .int .i64 b.rate] 28)) 31 #[.int .i64 r.rate, .int .i64 r.death])
  simp only [World.size_alloc] at HC
  have HBT := Lib.hid (hB.past hbw); clear hB
  have HX := Lib.hid (hX.past hbw); clear hX
  have HL := Lib.hid hl; clear hl
  have HF := Lib.hid hf; clear hf
  have HRF := Lib.hid _hr; clear _hr
  unfold Scenario.row at *
  have hcB0 := Lib.hid (Blk.agg (cs := [.int .i64 b.first, .slice A n cap, .int .i64 b.rate]) HB.out 0 [.int .i64 b.first, .slice A n cap, .int .i64 b.rate] rfl)
  have hcC0 := Lib.hid (Blk.agg (cs := [.int .i64 r.rate, .int .i64 r.death]) HC.out 0 [.int .i64 r.rate, .int .i64 r.death] rfl)
  cases hp : portB b xs
  · have Q := Lib.hid (show reqFor b xs r f = (0, 1) by simp [reqFor, reqIn, hp])
    go_enter Tryz.func100, Tryz.ntmps100
    go_wp2_with (first | (refine wpList_load_agg rfl 28 _ rfl ⟨w.heap.size, 0, none⟩ rfl [.int .i64 b.first, .slice A n cap, .int .i64 b.rate] hcB0.out _ Tryz.underlying28 rfl Bas.size ?_) | (refine wpList_load_agg rfl 31 _ rfl ⟨w.heap.size + 1, 0, none⟩ rfl [.int .i64 r.rate, .int .i64 r.death] hcC0.out _ Tryz.underlying31 rfl Scenario.size ?_))
    refine (impl_IsPortfolio_any b A n cap H m hcap xs _ HBT.out HL.out hm HX.out HF.out).mono ?_
    rw [hp]
    rintro e w1 ⟨rfl, hb1⟩
    go_wp2
    go_ret2
    exact ⟨by rw [Q.out]; rfl, hbw.trans (hb1.mono hbw.size)⟩
  cases hi : inR f 0 1000000000000
  · have Q := Lib.hid (show reqFor b xs r f = (0, 2) by simp [reqFor, reqIn, hp, hi])
    go_enter Tryz.func100, Tryz.ntmps100
    go_wp2_with (first | (refine wpList_load_agg rfl 28 _ rfl ⟨w.heap.size, 0, none⟩ rfl [.int .i64 b.first, .slice A n cap, .int .i64 b.rate] hcB0.out _ Tryz.underlying28 rfl Bas.size ?_) | (refine wpList_load_agg rfl 31 _ rfl ⟨w.heap.size + 1, 0, none⟩ rfl [.int .i64 r.rate, .int .i64 r.death] hcC0.out _ Tryz.underlying31 rfl Scenario.size ?_))
    refine (impl_IsPortfolio_any b A n cap H m hcap xs _ HBT.out HL.out hm HX.out HF.out).mono ?_
    rw [hp]
    rintro e w1 ⟨rfl, hb1⟩
    go_wp2_with (first | (go_at_call 82; refine (impl_inRange_any _ _ _ _).mono ?_; rintro e w' ⟨rfl, rfl⟩))
    go_ret2
    exact ⟨by rw [Q.out]; rfl, hbw.trans (hb1.mono hbw.size)⟩
  · have Q := Lib.hid (show reqFor b xs r f = reqP b xs r by simp [reqFor, reqP, hi])
    go_enter Tryz.func100, Tryz.ntmps100
    go_wp2_with (first | (refine wpList_load_agg rfl 28 _ rfl ⟨w.heap.size, 0, none⟩ rfl [.int .i64 b.first, .slice A n cap, .int .i64 b.rate] hcB0.out _ Tryz.underlying28 rfl Bas.size ?_) | (refine wpList_load_agg rfl 31 _ rfl ⟨w.heap.size + 1, 0, none⟩ rfl [.int .i64 r.rate, .int .i64 r.death] hcC0.out _ Tryz.underlying31 rfl Scenario.size ?_))
    refine (impl_IsPortfolio_any b A n cap H m hcap xs _ HBT.out HL.out hm HX.out HF.out).mono ?_
    rw [hp]
    rintro e w1 ⟨rfl, hb1⟩
    have hb01 := hbw.trans (hb1.mono hbw.size)
    have hcB1 := Lib.hid (Blk.agg (cs := [.int .i64 b.first, .slice A n cap, .int .i64 b.rate]) (HB.out.below' hb1) 0 [.int .i64 b.first, .slice A n cap, .int .i64 b.rate] rfl)
    have hcC1 := Lib.hid (Blk.agg (cs := [.int .i64 r.rate, .int .i64 r.death]) (HC.out.below' hb1) 0 [.int .i64 r.rate, .int .i64 r.death] rfl)
    go_wp2_with (first | (go_at_call 82; refine (impl_inRange_any _ _ _ _).mono ?_; rintro e w' ⟨rfl, rfl⟩) | (refine wpList_load_agg rfl 28 _ rfl ⟨w.heap.size, 0, none⟩ rfl [.int .i64 b.first, .slice A n cap, .int .i64 b.rate] hcB1.out _ Tryz.underlying28 rfl Bas.size ?_) | (refine wpList_load_agg rfl 31 _ rfl ⟨w.heap.size + 1, 0, none⟩ rfl [.int .i64 r.rate, .int .i64 r.death] hcC1.out _ Tryz.underlying31 rfl Scenario.size ?_))
    refine (impl_RequiredReserve_any b A n cap H m hcap xs r _ (HBT.out.past hb1) HL.out hm (HX.out.past hb1) HF.out HRF.out).mono ?_
    rintro e w2 ⟨rfl, hb2⟩
    go_wp2
    go_ret2
    exact ⟨by rw [Q.out]; rfl, hb01.trans (hb2.mono hb01.size)⟩


set_option maxHeartbeats 4000000 in
theorem impl_MissingMoney_any (b : Bas) (A : Option Addr) (n cap : Nat) (H : Option Addr) (m hcap : Nat) (xs : List Holding) (r : Scenario) (f : Int) (w : World) (hB : BasT w A n cap b) (hl : xs.length = m) (hm : m ≤ 1048576) (hX : Rd w w.heap.size H 7 (holdingRows xs)) (hf : ∀ x ∈ xs, x.fits) (_hr : r.fits) (_hf : In64 f) :
    Calls Tryz.prog 24 #[.agg #[.int .i64 b.first, .slice A n cap, .int .i64 b.rate], .slice H m hcap, .agg r.row.toArray, .int .i64 f] w fun e w' => e = .returned (.tuple #[.int .i64 (missP b xs r f).1, .int .i64 (missP b xs r f).2]) ∧ Below w.heap.size w w' := by
  have hbw : Below w.heap.size w ((w.alloc (.cells #[.int .i64 b.first, .slice A n cap, .int .i64 b.rate] 28)).alloc (.cells #[.int .i64 r.rate, .int .i64 r.death] 31)) := ((Below.refl _ w).alloc (Nat.le_refl _) _).alloc (by simp) _
  have HB := Lib.hid ((Blk.new w 28 #[.int .i64 b.first, .slice A n cap, .int .i64 b.rate]).alloc (.cells #[.int .i64 r.rate, .int .i64 r.death] 31))
  have HC := Lib.hid (Blk.new (w.alloc (.cells #[.int .i64 b.first, .slice A n cap, .int .i64 b.rate] 28)) 31 #[.int .i64 r.rate, .int .i64 r.death])
  simp only [World.size_alloc] at HC
  have HBT := Lib.hid (hB.past hbw); clear hB
  have HX := Lib.hid (hX.past hbw); clear hX
  have HL := Lib.hid hl; clear hl
  have HF := Lib.hid hf; clear hf
  have HRF := Lib.hid _hr; clear _hr
  unfold Scenario.row at *
  have hcB0 := Lib.hid (Blk.agg (cs := [.int .i64 b.first, .slice A n cap, .int .i64 b.rate]) HB.out 0 [.int .i64 b.first, .slice A n cap, .int .i64 b.rate] rfl)
  have hcC0 := Lib.hid (Blk.agg (cs := [.int .i64 r.rate, .int .i64 r.death]) HC.out 0 [.int .i64 r.rate, .int .i64 r.death] rfl)
  have hbd := reqIn_bound b xs r (inR f 0 1000000000000)
  have HFU := Lib.hid (fun h => reqFor_fund (b := b) (xs := xs) (r := r) (f := f) h)
  have QP := Lib.hid (show missP b xs r f = if (reqIn b xs r (inR f 0 1000000000000)).2 = 0 then (max 0 ((reqIn b xs r (inR f 0 1000000000000)).1 - f), 0) else (0, (reqIn b xs r (inR f 0 1000000000000)).2) from rfl)
  unfold reqFor at *
  obtain ⟨V, hV⟩ : ∃ V, reqIn b xs r (inR f 0 1000000000000) = V := ⟨_, rfl⟩
  rw [hV] at hbd HFU QP
  have HV := Lib.hid hV; clear hV
  obtain ⟨V1, V2⟩ := V
  obtain ⟨⟨v1, v2⟩, hcode, _⟩ := hbd
  simp only at v1 v2 HFU QP
  by_cases hc : V2 = 0
  rotate_left
  · have Q := Lib.hid (show missP b xs r f = (0, V2) by rw [QP.out, if_neg hc])
    have hz : (V2 == 0) = false := by simp [hc]
    clear hc hcode
    go_enter Tryz.func24, Tryz.ntmps24
    go_wp2_with (first | (refine wpList_load_agg rfl 28 _ rfl ⟨w.heap.size, 0, none⟩ rfl [.int .i64 b.first, .slice A n cap, .int .i64 b.rate] hcB0.out _ Tryz.underlying28 rfl Bas.size ?_) | (refine wpList_load_agg rfl 31 _ rfl ⟨w.heap.size + 1, 0, none⟩ rfl [.int .i64 r.rate, .int .i64 r.death] hcC0.out _ Tryz.underlying31 rfl Scenario.size ?_))
    refine (impl_requiredFor_any b A n cap H m hcap xs r f _ HBT.out HL.out hm HX.out HF.out HRF.out).mono ?_
    unfold reqFor
    rw [HV.out]
    rintro e w1 ⟨rfl, hb1⟩
    have HBW := Lib.hid (hbw.trans (hb1.mono hbw.size))
    go_wp2
    go_ret2
    exact ⟨by rw [Q.out]; rfl, HBW.out⟩
  subst hc
  obtain ⟨f0, f1⟩ := HFU.out rfl
  rw [if_pos rfl] at QP
  · have Q := Lib.hid (show missP b xs r f = (max 0 (V1 - f), 0) from QP.out)
    go_enter Tryz.func24, Tryz.ntmps24
    go_wp2_with (first | (refine wpList_load_agg rfl 28 _ rfl ⟨w.heap.size, 0, none⟩ rfl [.int .i64 b.first, .slice A n cap, .int .i64 b.rate] hcB0.out _ Tryz.underlying28 rfl Bas.size ?_) | (refine wpList_load_agg rfl 31 _ rfl ⟨w.heap.size + 1, 0, none⟩ rfl [.int .i64 r.rate, .int .i64 r.death] hcC0.out _ Tryz.underlying31 rfl Scenario.size ?_))
    refine (impl_requiredFor_any b A n cap H m hcap xs r f _ HBT.out HL.out hm HX.out HF.out HRF.out).mono ?_
    unfold reqFor
    rw [HV.out]
    rintro e w1 ⟨rfl, hb1⟩
    have HBW := Lib.hid (hbw.trans (hb1.mono hbw.size))
    go_wp2
    all_goals (go_ret2; exact ⟨by rw [Q.out]; first | rfl | (congr 2; omega) | (simp; omega), HBW.out⟩)


set_option maxHeartbeats 4000000 in
theorem impl_SolvencyRate_any (b : Bas) (A : Option Addr) (n cap : Nat) (H : Option Addr) (m hcap : Nat) (xs : List Holding) (r : Scenario) (f : Int) (w : World) (hB : BasT w A n cap b) (hl : xs.length = m) (hm : m ≤ 1048576) (hX : Rd w w.heap.size H 7 (holdingRows xs)) (hf : ∀ x ∈ xs, x.fits) (_hr : r.fits) (_hf : In64 f) :
    Calls Tryz.prog 26 #[.agg #[.int .i64 b.first, .slice A n cap, .int .i64 b.rate], .slice H m hcap, .agg r.row.toArray, .int .i64 f] w fun e w' => e = .returned (.tuple #[.int .i64 (solvP b xs r f).1, .int .i64 (solvP b xs r f).2]) ∧ Below w.heap.size w w' := by
  have hbw : Below w.heap.size w ((w.alloc (.cells #[.int .i64 b.first, .slice A n cap, .int .i64 b.rate] 28)).alloc (.cells #[.int .i64 r.rate, .int .i64 r.death] 31)) := ((Below.refl _ w).alloc (Nat.le_refl _) _).alloc (by simp) _
  have HB := Lib.hid ((Blk.new w 28 #[.int .i64 b.first, .slice A n cap, .int .i64 b.rate]).alloc (.cells #[.int .i64 r.rate, .int .i64 r.death] 31))
  have HC := Lib.hid (Blk.new (w.alloc (.cells #[.int .i64 b.first, .slice A n cap, .int .i64 b.rate] 28)) 31 #[.int .i64 r.rate, .int .i64 r.death])
  simp only [World.size_alloc] at HC
  have HBT := Lib.hid (hB.past hbw); clear hB
  have HX := Lib.hid (hX.past hbw); clear hX
  have HL := Lib.hid hl; clear hl
  have HF := Lib.hid hf; clear hf
  have HRF := Lib.hid _hr; clear _hr
  unfold Scenario.row at *
  have hcB0 := Lib.hid (Blk.agg (cs := [.int .i64 b.first, .slice A n cap, .int .i64 b.rate]) HB.out 0 [.int .i64 b.first, .slice A n cap, .int .i64 b.rate] rfl)
  have hcC0 := Lib.hid (Blk.agg (cs := [.int .i64 r.rate, .int .i64 r.death]) HC.out 0 [.int .i64 r.rate, .int .i64 r.death] rfl)
  have hbd := reqIn_bound b xs r (inR f 0 1000000000000)
  have HFU := Lib.hid (fun h => reqFor_fund (b := b) (xs := xs) (r := r) (f := f) h)
  have QP := Lib.hid (show solvP b xs r f = if (reqIn b xs r (inR f 0 1000000000000)).2 = 0 then (if (reqIn b xs r (inR f 0 1000000000000)).1 = 0 then (0, 4) else (if f * 1000 / (reqIn b xs r (inR f 0 1000000000000)).1 ≤ 1000000000000 then (f * 1000 / (reqIn b xs r (inR f 0 1000000000000)).1, 0) else (0, 3))) else (0, (reqIn b xs r (inR f 0 1000000000000)).2) from rfl)
  unfold reqFor at *
  obtain ⟨V, hV⟩ : ∃ V, reqIn b xs r (inR f 0 1000000000000) = V := ⟨_, rfl⟩
  rw [hV] at hbd HFU QP
  have HV := Lib.hid hV; clear hV
  obtain ⟨V1, V2⟩ := V
  obtain ⟨⟨v1, v2⟩, hcode, _⟩ := hbd
  simp only at v1 v2 HFU QP
  by_cases hc : V2 = 0
  rotate_left
  · have Q := Lib.hid (show solvP b xs r f = (0, V2) by rw [QP.out, if_neg hc])
    have hz : (V2 == 0) = false := by simp [hc]
    clear hc hcode
    go_enter Tryz.func26, Tryz.ntmps26
    go_wp2_with (first | (refine wpList_load_agg rfl 28 _ rfl ⟨w.heap.size, 0, none⟩ rfl [.int .i64 b.first, .slice A n cap, .int .i64 b.rate] hcB0.out _ Tryz.underlying28 rfl Bas.size ?_) | (refine wpList_load_agg rfl 31 _ rfl ⟨w.heap.size + 1, 0, none⟩ rfl [.int .i64 r.rate, .int .i64 r.death] hcC0.out _ Tryz.underlying31 rfl Scenario.size ?_))
    refine (impl_requiredFor_any b A n cap H m hcap xs r f _ HBT.out HL.out hm HX.out HF.out HRF.out).mono ?_
    unfold reqFor
    rw [HV.out]
    rintro e w1 ⟨rfl, hb1⟩
    have HBW := Lib.hid (hbw.trans (hb1.mono hbw.size))
    go_wp2
    go_ret2
    exact ⟨by rw [Q.out]; rfl, HBW.out⟩
  subst hc
  obtain ⟨f0, f1⟩ := HFU.out rfl
  rw [if_pos rfl] at QP
  by_cases hv : V1 = 0
  · have Q := Lib.hid (show solvP b xs r f = (0, 4) by rw [QP.out, if_pos hv])
    have hz : (V1 == 0) = true := by simp [hv]
    have HV0 := Lib.hid hv; clear hv
    go_enter Tryz.func26, Tryz.ntmps26
    go_wp2_with (first | (refine wpList_load_agg rfl 28 _ rfl ⟨w.heap.size, 0, none⟩ rfl [.int .i64 b.first, .slice A n cap, .int .i64 b.rate] hcB0.out _ Tryz.underlying28 rfl Bas.size ?_) | (refine wpList_load_agg rfl 31 _ rfl ⟨w.heap.size + 1, 0, none⟩ rfl [.int .i64 r.rate, .int .i64 r.death] hcC0.out _ Tryz.underlying31 rfl Scenario.size ?_))
    refine (impl_requiredFor_any b A n cap H m hcap xs r f _ HBT.out HL.out hm HX.out HF.out HRF.out).mono ?_
    unfold reqFor
    rw [HV.out]
    rintro e w1 ⟨rfl, hb1⟩
    have HBW := Lib.hid (hbw.trans (hb1.mono hbw.size))
    go_wp2
    go_ret2
    exact ⟨by rw [Q.out]; rfl, HBW.out⟩
  have hz : (V1 == 0) = false := by simp [hv]
  have hv1 : 1 ≤ V1 := by omega
  rw [if_neg hv] at QP
  obtain ⟨r0, r1⟩ := rate_parts ⟨f0, f1⟩ hv1
  clear hv
  by_cases hq : f * 1000 / V1 ≤ 1000000000000
  · have Q := Lib.hid (show solvP b xs r f = (f * 1000 / V1, 0) by rw [QP.out, if_pos hq])
    go_enter Tryz.func26, Tryz.ntmps26
    go_wp2_with (first | (refine wpList_load_agg rfl 28 _ rfl ⟨w.heap.size, 0, none⟩ rfl [.int .i64 b.first, .slice A n cap, .int .i64 b.rate] hcB0.out _ Tryz.underlying28 rfl Bas.size ?_) | (refine wpList_load_agg rfl 31 _ rfl ⟨w.heap.size + 1, 0, none⟩ rfl [.int .i64 r.rate, .int .i64 r.death] hcC0.out _ Tryz.underlying31 rfl Scenario.size ?_))
    refine (impl_requiredFor_any b A n cap H m hcap xs r f _ HBT.out HL.out hm HX.out HF.out HRF.out).mono ?_
    unfold reqFor
    rw [HV.out]
    rintro e w1 ⟨rfl, hb1⟩
    have HBW := Lib.hid (hbw.trans (hb1.mono hbw.size))
    go_wp2
    go_ret2
    exact ⟨by rw [Q.out]; rfl, HBW.out⟩
  · have Q := Lib.hid (show solvP b xs r f = (0, 3) by rw [QP.out, if_neg hq])
    go_enter Tryz.func26, Tryz.ntmps26
    go_wp2_with (first | (refine wpList_load_agg rfl 28 _ rfl ⟨w.heap.size, 0, none⟩ rfl [.int .i64 b.first, .slice A n cap, .int .i64 b.rate] hcB0.out _ Tryz.underlying28 rfl Bas.size ?_) | (refine wpList_load_agg rfl 31 _ rfl ⟨w.heap.size + 1, 0, none⟩ rfl [.int .i64 r.rate, .int .i64 r.death] hcC0.out _ Tryz.underlying31 rfl Scenario.size ?_))
    refine (impl_requiredFor_any b A n cap H m hcap xs r f _ HBT.out HL.out hm HX.out HF.out HRF.out).mono ?_
    unfold reqFor
    rw [HV.out]
    rintro e w1 ⟨rfl, hb1⟩
    have HBW := Lib.hid (hbw.trans (hb1.mono hbw.size))
    go_wp2
    go_ret2
    exact ⟨by rw [Q.out]; rfl, HBW.out⟩


set_option maxHeartbeats 4000000 in
theorem spec_MissingMoney_any (b : Bas) (A : Option Addr) (n cap : Nat) (H : Option Addr) (m hcap : Nat) (xs : List Holding) (r : Scenario) (f : Int) (w : World) (hB : BasT w A n cap b) (hl : xs.length = m) (hm : m ≤ 1048576) (hX : Rd w w.heap.size H 7 (holdingRows xs)) (hf : ∀ x ∈ xs, x.fits) (_hr : r.fits) (_hf : In64 f) :
    Calls Tryz.prog 25 #[.agg #[.int .i64 b.first, .slice A n cap, .int .i64 b.rate], .slice H m hcap, .agg r.row.toArray, .int .i64 f] w fun e w' => e = .returned (.tuple #[.int .i64 (missP b xs r f).1, .int .i64 (missP b xs r f).2]) ∧ Below w.heap.size w w' := by
  have hbw : Below w.heap.size w ((w.alloc (.cells #[.int .i64 b.first, .slice A n cap, .int .i64 b.rate] 28)).alloc (.cells #[.int .i64 r.rate, .int .i64 r.death] 31)) := ((Below.refl _ w).alloc (Nat.le_refl _) _).alloc (by simp) _
  have HB := Lib.hid ((Blk.new w 28 #[.int .i64 b.first, .slice A n cap, .int .i64 b.rate]).alloc (.cells #[.int .i64 r.rate, .int .i64 r.death] 31))
  have HC := Lib.hid (Blk.new (w.alloc (.cells #[.int .i64 b.first, .slice A n cap, .int .i64 b.rate] 28)) 31 #[.int .i64 r.rate, .int .i64 r.death])
  simp only [World.size_alloc] at HC
  have HBT := Lib.hid (hB.past hbw); clear hB
  have HX := Lib.hid (hX.past hbw); clear hX
  have HL := Lib.hid hl; clear hl
  have HF := Lib.hid hf; clear hf
  have HRF := Lib.hid _hr; clear _hr
  unfold Scenario.row at *
  have hcB0 := Lib.hid (Blk.agg (cs := [.int .i64 b.first, .slice A n cap, .int .i64 b.rate]) HB.out 0 [.int .i64 b.first, .slice A n cap, .int .i64 b.rate] rfl)
  have hcC0 := Lib.hid (Blk.agg (cs := [.int .i64 r.rate, .int .i64 r.death]) HC.out 0 [.int .i64 r.rate, .int .i64 r.death] rfl)
  have hbd := reqIn_bound b xs r (inR f 0 1000000000000)
  have HFU := Lib.hid (fun h => reqFor_fund (b := b) (xs := xs) (r := r) (f := f) h)
  have QP := Lib.hid (show missP b xs r f = if (reqIn b xs r (inR f 0 1000000000000)).2 = 0 then (max 0 ((reqIn b xs r (inR f 0 1000000000000)).1 - f), 0) else (0, (reqIn b xs r (inR f 0 1000000000000)).2) from rfl)
  unfold reqFor at *
  obtain ⟨V, hV⟩ : ∃ V, reqIn b xs r (inR f 0 1000000000000) = V := ⟨_, rfl⟩
  rw [hV] at hbd HFU QP
  have HV := Lib.hid hV; clear hV
  obtain ⟨V1, V2⟩ := V
  obtain ⟨⟨v1, v2⟩, hcode, _⟩ := hbd
  simp only at v1 v2 HFU QP
  by_cases hc : V2 = 0
  rotate_left
  · have Q := Lib.hid (show missP b xs r f = (0, V2) by rw [QP.out, if_neg hc])
    have hz : (V2 == 0) = false := by simp [hc]
    clear hc hcode
    have HWP := Lib.hid (fun y : Past ((w.alloc (.cells #[.int .i64 b.first, .slice A n cap, .int .i64 b.rate] 28)).alloc (.cells #[.int .i64 r.rate, .int .i64 r.death] 31)) => hbw.trans (y.2.mono hbw.size))
    have hcB := Lib.hid (Blk.agg_past (cs := [.int .i64 b.first, .slice A n cap, .int .i64 b.rate]) HB.out 0 [.int .i64 b.first, .slice A n cap, .int .i64 b.rate] rfl)
    have hcC := Lib.hid (Blk.agg_past (cs := [.int .i64 r.rate, .int .i64 r.death]) HC.out 0 [.int .i64 r.rate, .int .i64 r.death] rfl)
    go_enter Tryz.func25, Tryz.ntmps25
    go_wp2
    refine wp_region_past (by kernel_rfl) (by kernel_rfl) ?_
    repeat (first | (go_big_quiet_want; (first | (first | (refine quiet_load_agg 28 _ rfl ⟨w.heap.size, 0, none⟩ rfl [.int .i64 b.first, .slice A n cap, .int .i64 b.rate] hcB.out _ Tryz.underlying28 rfl Bas.size ?_) | (refine quiet_load_agg 31 _ rfl ⟨w.heap.size + 1, 0, none⟩ rfl [.int .i64 r.rate, .int .i64 r.death] hcC.out _ Tryz.underlying31 rfl Scenario.size ?_))); go_simp; go_big_quiet_on) | go_big_quiet_step ((first | (go_at_call 101; exact past_same (spec_l21Fund_any f _)) | (go_at_call 78; exact past_call ((spec_l21Required_any b A n cap H m hcap xs r (inR f 0 1000000000000) _ (HBT.out.at_past _) HL.out hm (HX.out.past (Subtype.property _)) HF.out HRF.out).mono (by rw [HV.out]; exact fun _ _ h => h))))))
    refine wpQuiet_nil ?_
    rintro _ ⟨y, rfl⟩
    have HBW := Lib.hid (HWP.out y)
    go_wp2
    go_ret2
    exact ⟨by rw [Q.out]; rfl, HBW.out⟩
  subst hc
  obtain ⟨f0, f1⟩ := HFU.out rfl
  rw [if_pos rfl] at QP
  · have Q := Lib.hid (show missP b xs r f = (max 0 (V1 - f), 0) from QP.out)
    have HWP := Lib.hid (fun y : Past ((w.alloc (.cells #[.int .i64 b.first, .slice A n cap, .int .i64 b.rate] 28)).alloc (.cells #[.int .i64 r.rate, .int .i64 r.death] 31)) => hbw.trans (y.2.mono hbw.size))
    have hcB := Lib.hid (Blk.agg_past (cs := [.int .i64 b.first, .slice A n cap, .int .i64 b.rate]) HB.out 0 [.int .i64 b.first, .slice A n cap, .int .i64 b.rate] rfl)
    have hcC := Lib.hid (Blk.agg_past (cs := [.int .i64 r.rate, .int .i64 r.death]) HC.out 0 [.int .i64 r.rate, .int .i64 r.death] rfl)
    go_enter Tryz.func25, Tryz.ntmps25
    go_wp2
    refine wp_region_past (by kernel_rfl) (by kernel_rfl) ?_
    repeat (first | (go_big_quiet_want; (first | (first | (refine quiet_load_agg 28 _ rfl ⟨w.heap.size, 0, none⟩ rfl [.int .i64 b.first, .slice A n cap, .int .i64 b.rate] hcB.out _ Tryz.underlying28 rfl Bas.size ?_) | (refine quiet_load_agg 31 _ rfl ⟨w.heap.size + 1, 0, none⟩ rfl [.int .i64 r.rate, .int .i64 r.death] hcC.out _ Tryz.underlying31 rfl Scenario.size ?_))); go_simp; go_big_quiet_on) | go_big_quiet_step ((first | (go_at_call 101; exact past_same (spec_l21Fund_any f _)) | (go_at_call 78; exact past_call ((spec_l21Required_any b A n cap H m hcap xs r (inR f 0 1000000000000) _ (HBT.out.at_past _) HL.out hm (HX.out.past (Subtype.property _)) HF.out HRF.out).mono (by rw [HV.out]; exact fun _ _ h => h))))))
    refine wpQuiet_nil ?_
    rintro _ ⟨y, rfl⟩
    have HBW := Lib.hid (HWP.out y)
    go_wp2
    all_goals (go_ret2; exact ⟨by rw [Q.out]; first | rfl | (congr 2; omega) | (simp; omega), HBW.out⟩)


set_option maxHeartbeats 4000000 in
theorem spec_SolvencyRate_any (b : Bas) (A : Option Addr) (n cap : Nat) (H : Option Addr) (m hcap : Nat) (xs : List Holding) (r : Scenario) (f : Int) (w : World) (hB : BasT w A n cap b) (hl : xs.length = m) (hm : m ≤ 1048576) (hX : Rd w w.heap.size H 7 (holdingRows xs)) (hf : ∀ x ∈ xs, x.fits) (_hr : r.fits) (_hf : In64 f) :
    Calls Tryz.prog 27 #[.agg #[.int .i64 b.first, .slice A n cap, .int .i64 b.rate], .slice H m hcap, .agg r.row.toArray, .int .i64 f] w fun e w' => e = .returned (.tuple #[.int .i64 (solvP b xs r f).1, .int .i64 (solvP b xs r f).2]) ∧ Below w.heap.size w w' := by
  have hbw : Below w.heap.size w ((w.alloc (.cells #[.int .i64 b.first, .slice A n cap, .int .i64 b.rate] 28)).alloc (.cells #[.int .i64 r.rate, .int .i64 r.death] 31)) := ((Below.refl _ w).alloc (Nat.le_refl _) _).alloc (by simp) _
  have HB := Lib.hid ((Blk.new w 28 #[.int .i64 b.first, .slice A n cap, .int .i64 b.rate]).alloc (.cells #[.int .i64 r.rate, .int .i64 r.death] 31))
  have HC := Lib.hid (Blk.new (w.alloc (.cells #[.int .i64 b.first, .slice A n cap, .int .i64 b.rate] 28)) 31 #[.int .i64 r.rate, .int .i64 r.death])
  simp only [World.size_alloc] at HC
  have HBT := Lib.hid (hB.past hbw); clear hB
  have HX := Lib.hid (hX.past hbw); clear hX
  have HL := Lib.hid hl; clear hl
  have HF := Lib.hid hf; clear hf
  have HRF := Lib.hid _hr; clear _hr
  unfold Scenario.row at *
  have hcB0 := Lib.hid (Blk.agg (cs := [.int .i64 b.first, .slice A n cap, .int .i64 b.rate]) HB.out 0 [.int .i64 b.first, .slice A n cap, .int .i64 b.rate] rfl)
  have hcC0 := Lib.hid (Blk.agg (cs := [.int .i64 r.rate, .int .i64 r.death]) HC.out 0 [.int .i64 r.rate, .int .i64 r.death] rfl)
  have hbd := reqIn_bound b xs r (inR f 0 1000000000000)
  have HFU := Lib.hid (fun h => reqFor_fund (b := b) (xs := xs) (r := r) (f := f) h)
  have QP := Lib.hid (show solvP b xs r f = if (reqIn b xs r (inR f 0 1000000000000)).2 = 0 then (if (reqIn b xs r (inR f 0 1000000000000)).1 = 0 then (0, 4) else (if f * 1000 / (reqIn b xs r (inR f 0 1000000000000)).1 ≤ 1000000000000 then (f * 1000 / (reqIn b xs r (inR f 0 1000000000000)).1, 0) else (0, 3))) else (0, (reqIn b xs r (inR f 0 1000000000000)).2) from rfl)
  unfold reqFor at *
  obtain ⟨V, hV⟩ : ∃ V, reqIn b xs r (inR f 0 1000000000000) = V := ⟨_, rfl⟩
  rw [hV] at hbd HFU QP
  have HV := Lib.hid hV; clear hV
  obtain ⟨V1, V2⟩ := V
  obtain ⟨⟨v1, v2⟩, hcode, _⟩ := hbd
  simp only at v1 v2 HFU QP
  by_cases hc : V2 = 0
  rotate_left
  · have Q := Lib.hid (show solvP b xs r f = (0, V2) by rw [QP.out, if_neg hc])
    have hz : (V2 == 0) = false := by simp [hc]
    clear hc hcode
    have HWP := Lib.hid (fun y : Past ((w.alloc (.cells #[.int .i64 b.first, .slice A n cap, .int .i64 b.rate] 28)).alloc (.cells #[.int .i64 r.rate, .int .i64 r.death] 31)) => hbw.trans (y.2.mono hbw.size))
    have hcB := Lib.hid (Blk.agg_past (cs := [.int .i64 b.first, .slice A n cap, .int .i64 b.rate]) HB.out 0 [.int .i64 b.first, .slice A n cap, .int .i64 b.rate] rfl)
    have hcC := Lib.hid (Blk.agg_past (cs := [.int .i64 r.rate, .int .i64 r.death]) HC.out 0 [.int .i64 r.rate, .int .i64 r.death] rfl)
    go_enter Tryz.func27, Tryz.ntmps27
    go_wp2
    refine wp_region_past (by kernel_rfl) (by kernel_rfl) ?_
    repeat (first | (go_big_quiet_want; (first | (first | (refine quiet_load_agg 28 _ rfl ⟨w.heap.size, 0, none⟩ rfl [.int .i64 b.first, .slice A n cap, .int .i64 b.rate] hcB.out _ Tryz.underlying28 rfl Bas.size ?_) | (refine quiet_load_agg 31 _ rfl ⟨w.heap.size + 1, 0, none⟩ rfl [.int .i64 r.rate, .int .i64 r.death] hcC.out _ Tryz.underlying31 rfl Scenario.size ?_))); go_simp; go_big_quiet_on) | go_big_quiet_step ((first | (go_at_call 101; exact past_same (spec_l21Fund_any f _)) | (go_at_call 78; exact past_call ((spec_l21Required_any b A n cap H m hcap xs r (inR f 0 1000000000000) _ (HBT.out.at_past _) HL.out hm (HX.out.past (Subtype.property _)) HF.out HRF.out).mono (by rw [HV.out]; exact fun _ _ h => h))))))
    refine wpQuiet_nil ?_
    rintro _ ⟨y, rfl⟩
    have HBW := Lib.hid (HWP.out y)
    go_wp2
    go_ret2
    exact ⟨by rw [Q.out]; rfl, HBW.out⟩
  subst hc
  obtain ⟨f0, f1⟩ := HFU.out rfl
  rw [if_pos rfl] at QP
  by_cases hv : V1 = 0
  · have Q := Lib.hid (show solvP b xs r f = (0, 4) by rw [QP.out, if_pos hv])
    have hz : (V1 == 0) = true := by simp [hv]
    have HV0 := Lib.hid hv; clear hv
    have HWP := Lib.hid (fun y : Past ((w.alloc (.cells #[.int .i64 b.first, .slice A n cap, .int .i64 b.rate] 28)).alloc (.cells #[.int .i64 r.rate, .int .i64 r.death] 31)) => hbw.trans (y.2.mono hbw.size))
    have hcB := Lib.hid (Blk.agg_past (cs := [.int .i64 b.first, .slice A n cap, .int .i64 b.rate]) HB.out 0 [.int .i64 b.first, .slice A n cap, .int .i64 b.rate] rfl)
    have hcC := Lib.hid (Blk.agg_past (cs := [.int .i64 r.rate, .int .i64 r.death]) HC.out 0 [.int .i64 r.rate, .int .i64 r.death] rfl)
    go_enter Tryz.func27, Tryz.ntmps27
    go_wp2
    refine wp_region_past (by kernel_rfl) (by kernel_rfl) ?_
    repeat (first | (go_big_quiet_want; (first | (first | (refine quiet_load_agg 28 _ rfl ⟨w.heap.size, 0, none⟩ rfl [.int .i64 b.first, .slice A n cap, .int .i64 b.rate] hcB.out _ Tryz.underlying28 rfl Bas.size ?_) | (refine quiet_load_agg 31 _ rfl ⟨w.heap.size + 1, 0, none⟩ rfl [.int .i64 r.rate, .int .i64 r.death] hcC.out _ Tryz.underlying31 rfl Scenario.size ?_))); go_simp; go_big_quiet_on) | go_big_quiet_step ((first | (go_at_call 101; exact past_same (spec_l21Fund_any f _)) | (go_at_call 78; exact past_call ((spec_l21Required_any b A n cap H m hcap xs r (inR f 0 1000000000000) _ (HBT.out.at_past _) HL.out hm (HX.out.past (Subtype.property _)) HF.out HRF.out).mono (by rw [HV.out]; exact fun _ _ h => h))))))
    refine wpQuiet_nil ?_
    rintro _ ⟨y, rfl⟩
    have HBW := Lib.hid (HWP.out y)
    go_wp2
    go_ret2
    exact ⟨by rw [Q.out]; rfl, HBW.out⟩
  have hz : (V1 == 0) = false := by simp [hv]
  have hv1 : 1 ≤ V1 := by omega
  rw [if_neg hv] at QP
  obtain ⟨r0, r1⟩ := rate_parts ⟨f0, f1⟩ hv1
  clear hv
  by_cases hq : f * 1000 / V1 ≤ 1000000000000
  · have Q := Lib.hid (show solvP b xs r f = (f * 1000 / V1, 0) by rw [QP.out, if_pos hq])
    have HWP := Lib.hid (fun y : Past ((w.alloc (.cells #[.int .i64 b.first, .slice A n cap, .int .i64 b.rate] 28)).alloc (.cells #[.int .i64 r.rate, .int .i64 r.death] 31)) => hbw.trans (y.2.mono hbw.size))
    have hcB := Lib.hid (Blk.agg_past (cs := [.int .i64 b.first, .slice A n cap, .int .i64 b.rate]) HB.out 0 [.int .i64 b.first, .slice A n cap, .int .i64 b.rate] rfl)
    have hcC := Lib.hid (Blk.agg_past (cs := [.int .i64 r.rate, .int .i64 r.death]) HC.out 0 [.int .i64 r.rate, .int .i64 r.death] rfl)
    go_enter Tryz.func27, Tryz.ntmps27
    go_wp2
    refine wp_region_past (by kernel_rfl) (by kernel_rfl) ?_
    repeat (first | (go_big_quiet_want; (first | (first | (refine quiet_load_agg 28 _ rfl ⟨w.heap.size, 0, none⟩ rfl [.int .i64 b.first, .slice A n cap, .int .i64 b.rate] hcB.out _ Tryz.underlying28 rfl Bas.size ?_) | (refine quiet_load_agg 31 _ rfl ⟨w.heap.size + 1, 0, none⟩ rfl [.int .i64 r.rate, .int .i64 r.death] hcC.out _ Tryz.underlying31 rfl Scenario.size ?_))); go_simp; go_big_quiet_on) | go_big_quiet_step ((first | (go_at_call 101; exact past_same (spec_l21Fund_any f _)) | (go_at_call 78; exact past_call ((spec_l21Required_any b A n cap H m hcap xs r (inR f 0 1000000000000) _ (HBT.out.at_past _) HL.out hm (HX.out.past (Subtype.property _)) HF.out HRF.out).mono (by rw [HV.out]; exact fun _ _ h => h))))))
    refine wpQuiet_nil ?_
    rintro _ ⟨y, rfl⟩
    have HBW := Lib.hid (HWP.out y)
    go_wp2
    go_ret2
    exact ⟨by rw [Q.out]; rfl, HBW.out⟩
  · have Q := Lib.hid (show solvP b xs r f = (0, 3) by rw [QP.out, if_neg hq])
    have HWP := Lib.hid (fun y : Past ((w.alloc (.cells #[.int .i64 b.first, .slice A n cap, .int .i64 b.rate] 28)).alloc (.cells #[.int .i64 r.rate, .int .i64 r.death] 31)) => hbw.trans (y.2.mono hbw.size))
    have hcB := Lib.hid (Blk.agg_past (cs := [.int .i64 b.first, .slice A n cap, .int .i64 b.rate]) HB.out 0 [.int .i64 b.first, .slice A n cap, .int .i64 b.rate] rfl)
    have hcC := Lib.hid (Blk.agg_past (cs := [.int .i64 r.rate, .int .i64 r.death]) HC.out 0 [.int .i64 r.rate, .int .i64 r.death] rfl)
    go_enter Tryz.func27, Tryz.ntmps27
    go_wp2
    refine wp_region_past (by kernel_rfl) (by kernel_rfl) ?_
    repeat (first | (go_big_quiet_want; (first | (first | (refine quiet_load_agg 28 _ rfl ⟨w.heap.size, 0, none⟩ rfl [.int .i64 b.first, .slice A n cap, .int .i64 b.rate] hcB.out _ Tryz.underlying28 rfl Bas.size ?_) | (refine quiet_load_agg 31 _ rfl ⟨w.heap.size + 1, 0, none⟩ rfl [.int .i64 r.rate, .int .i64 r.death] hcC.out _ Tryz.underlying31 rfl Scenario.size ?_))); go_simp; go_big_quiet_on) | go_big_quiet_step ((first | (go_at_call 101; exact past_same (spec_l21Fund_any f _)) | (go_at_call 78; exact past_call ((spec_l21Required_any b A n cap H m hcap xs r (inR f 0 1000000000000) _ (HBT.out.at_past _) HL.out hm (HX.out.past (Subtype.property _)) HF.out HRF.out).mono (by rw [HV.out]; exact fun _ _ h => h))))))
    refine wpQuiet_nil ?_
    rintro _ ⟨y, rfl⟩
    have HBW := Lib.hid (HWP.out y)
    go_wp2
    go_ret2
    exact ⟨by rw [Q.out]; rfl, HBW.out⟩

end Go.Proofs.YtbjdbpdgacfcpaaGreat
end

/- The worst of some scenarios: the program's and the reference's contracts. -/
section
namespace Go.Proofs.YtbjdbpdgacfcpaaGreat
open Go.RowKit Go.BigFrame

def worstL (b : Bas) (xs : List Holding) : List Scenario → Int → Int → Int → Int × Int × Int
  | [], _, best, most => (best, most, 0)
  | s :: rest, i, best, most =>
    if (reqP b xs s).2 = 0 then (if most < (reqP b xs s).1 then worstL b xs rest (i + 1) i (reqP b xs s).1 else worstL b xs rest (i + 1) best most) else (0, 0, (reqP b xs s).2)
def worstP (b : Bas) (xs : List Holding) (ss : List Scenario) : Int × Int × Int :=
  if portB b xs = true then (if inR (ss.length : Int) 1 20 = true then worstL b xs ss 0 0 (-1) else (0, 0, 2)) else (0, 0, 1)
theorem drop_get {α : Type} : ∀ {xs : List α} {k : Nat} {x : α}, xs[k]? = some x → xs.drop k = x :: xs.drop (k + 1)
  | [], k, x, h => by simp at h
  | y :: ys, 0, x, h => by simp at h; simp [h]
  | y :: ys, k + 1, x, h => by simp at h; simpa using drop_get h
theorem worst_more {b : Bas} {xs : List Holding} {ss : List Scenario} {k : Nat} {x : Scenario} {V1 : Int} (i best most : Int) (h : ss[k]? = some x) (hv : reqP b xs x = (V1, 0)) (hc : most < V1) : worstL b xs (ss.drop k) i best most = worstL b xs (ss.drop (k + 1)) (i + 1) i V1 := by
  rw [drop_get h]; conv => lhs; unfold worstL
  rw [hv]; simp [hc]
theorem worst_less {b : Bas} {xs : List Holding} {ss : List Scenario} {k : Nat} {x : Scenario} {V1 : Int} (i best most : Int) (h : ss[k]? = some x) (hv : reqP b xs x = (V1, 0)) (hc : ¬ most < V1) : worstL b xs (ss.drop k) i best most = worstL b xs (ss.drop (k + 1)) (i + 1) best most := by
  rw [drop_get h]; conv => lhs; unfold worstL
  rw [hv]; simp [hc]
theorem worst_bad {b : Bas} {xs : List Holding} {ss : List Scenario} {k : Nat} {x : Scenario} {V1 V2 : Int} (i best most : Int) (h : ss[k]? = some x) (hv : reqP b xs x = (V1, V2)) (hc : ¬ V2 = 0) : worstL b xs (ss.drop k) i best most = (0, 0, V2) := by
  rw [drop_get h]; unfold worstL
  rw [hv]; simp [hc]
theorem worst_end {b : Bas} {xs : List Holding} {ss : List Scenario} {k : Nat} (i best most : Int) (h : ss.length = k) : worstL b xs (ss.drop k) i best most = (best, most, 0) := by
  rw [List.drop_eq_nil_of_le (by omega)]; rfl
theorem reqP_code {b : Bas} {xs : List Holding} {r : Scenario} {V1 V2 : Int} (h : reqP b xs r = (V1, V2)) : (0 ≤ V1 ∧ V1 ≤ 4000000000000000) ∧ (V2 = 0 ∨ V2 = 1 ∨ V2 = 2 ∨ V2 = 5) := by
  have h1 := reqIn_bound b xs r true
  unfold reqP at h
  rw [h] at h1
  exact ⟨h1.1, h1.2.1⟩
theorem scenariosLen_any (A : Option Addr) (n cap : Nat) (w : World) :
    Calls Tryz.prog 103 #[.slice A n cap] w fun e w' => e = .returned (.int .i64 n) ∧ w = w' := by
  go_enter Tryz.func103, Tryz.ntmps103
  go_wp2
  go_ret
  exact ⟨rfl, rfl⟩


set_option maxRecDepth 100000 in
set_option maxHeartbeats 8000000 in
theorem impl_WorstScenario_any (b : Bas) (A : Option Addr) (n cap : Nat) (H : Option Addr) (m hcap : Nat) (xs : List Holding) (L : Option Addr) (l lcap : Nat) (ss : List Scenario) (w : World) (hB : BasT w A n cap b) (hl : xs.length = m) (hm : m ≤ 1048576) (hX : Rd w w.heap.size H 7 (holdingRows xs)) (hf : ∀ x ∈ xs, x.fits) (hll : ss.length = l) (hlm : l ≤ 1048576) (hLX : Rd w w.heap.size L 2 (scenarioRows ss)) (hlf : ∀ x ∈ ss, x.fits) :
    Calls Tryz.prog 29 #[.agg #[.int .i64 b.first, .slice A n cap, .int .i64 b.rate], .slice H m hcap, .slice L l lcap] w fun e w' => e = .returned (.tuple #[.int .i64 (worstP b xs ss).1, .int .i64 (worstP b xs ss).2.1, .int .i64 (worstP b xs ss).2.2]) ∧ Below w.heap.size w w' := by
  have hbw : Below w.heap.size w (w.alloc (.cells #[.int .i64 b.first, .slice A n cap, .int .i64 b.rate] 28)) := (Below.refl _ w).alloc (Nat.le_refl _) _
  have HB := Lib.hid (Blk.new w 28 #[.int .i64 b.first, .slice A n cap, .int .i64 b.rate])
  have HBT := Lib.hid (hB.past hbw); clear hB
  have HX := Lib.hid (hX.past hbw); clear hX
  have HLX := Lib.hid (hLX.past hbw); clear hLX
  have HL := Lib.hid hl; clear hl
  have HF := Lib.hid hf; clear hf
  have HLL := Lib.hid hll; clear hll
  have HLF := Lib.hid hlf; clear hlf
  have HBW := Lib.hid hbw; clear hbw
  have hcB0 := Lib.hid (Blk.agg (cs := [.int .i64 b.first, .slice A n cap, .int .i64 b.rate]) HB.out 0 [.int .i64 b.first, .slice A n cap, .int .i64 b.rate] rfl)
  cases hp : portB b xs
  · have Q := Lib.hid (show worstP b xs ss = (0, 0, 1) by simp [worstP, hp])
    go_enter Tryz.func29, Tryz.ntmps29
    go_wp2_with (first | (refine wpList_load_agg rfl 28 _ rfl ⟨w.heap.size, 0, none⟩ rfl [.int .i64 b.first, .slice A n cap, .int .i64 b.rate] hcB0.out _ Tryz.underlying28 rfl Bas.size ?_))
    refine (impl_IsPortfolio_any b A n cap H m hcap xs _ HBT.out HL.out hm HX.out HF.out).mono ?_
    rw [hp]
    rintro e w1 ⟨rfl, hb1⟩
    have hb01 := HBW.out.trans (hb1.mono HBW.out.size)
    go_wp2
    go_ret3
    exact ⟨by rw [Q.out]; rfl, hb01⟩
  cases hi : inR (l : Int) 1 20
  · have Q := Lib.hid (show worstP b xs ss = (0, 0, 2) by simp [worstP, hp, HLL.out, hi])
    go_enter Tryz.func29, Tryz.ntmps29
    go_wp2_with (first | (refine wpList_load_agg rfl 28 _ rfl ⟨w.heap.size, 0, none⟩ rfl [.int .i64 b.first, .slice A n cap, .int .i64 b.rate] hcB0.out _ Tryz.underlying28 rfl Bas.size ?_))
    refine (impl_IsPortfolio_any b A n cap H m hcap xs _ HBT.out HL.out hm HX.out HF.out).mono ?_
    rw [hp]
    rintro e w1 ⟨rfl, hb1⟩
    have hb01 := HBW.out.trans (hb1.mono HBW.out.size)
    go_wp2_with (first | (go_at_call 103; refine (scenariosLen_any _ _ _ _).mono ?_; rintro e w' ⟨rfl, rfl⟩) | (go_at_call 82; refine (impl_inRange_any _ _ _ _).mono ?_; rintro e w' ⟨rfl, rfl⟩))
    go_ret3
    exact ⟨by rw [Q.out]; rfl, hb01⟩
  have Q0 := Lib.hid (show worstP b xs ss = worstL b xs (ss.drop 0) 0 0 (-1) by simp [worstP, hp, HLL.out, hi])
  have hlr : 1 ≤ l ∧ l ≤ 20 := by have := inR_true.1 hi; omega
  obtain ⟨hl1, hl20⟩ := hlr
  · go_enter Tryz.func29, Tryz.ntmps29
    go_wp2_with (first | (refine wpList_load_agg rfl 28 _ rfl ⟨w.heap.size, 0, none⟩ rfl [.int .i64 b.first, .slice A n cap, .int .i64 b.rate] hcB0.out _ Tryz.underlying28 rfl Bas.size ?_))
    refine (impl_IsPortfolio_any b A n cap H m hcap xs _ HBT.out HL.out hm HX.out HF.out).mono ?_
    rw [hp]
    rintro e w1 ⟨rfl, hb1⟩
    have hb01 := HBW.out.trans (hb1.mono HBW.out.size)
    have HBT1 := Lib.hid (HBT.out.past hb1)
    have HX1 := Lib.hid (HX.out.past hb1)
    have HLX1 := Lib.hid (HLX.out.past hb1)
    have HB1 := Lib.hid (HB.out.below' hb1)
    have HBW1 := Lib.hid hb01
    clear hb1 hb01
    go_wp2_with (first | (go_at_call 103; refine (scenariosLen_any _ _ _ _).mono ?_; rintro e w' ⟨rfl, rfl⟩) | (go_at_call 82; refine (impl_inRange_any _ _ _ _).mono ?_; rintro e w' ⟨rfl, rfl⟩))
    go_loopw [9, 10, 27] (fun u v i wr => ∃ (k : Nat) (best most : Int), k ≤ l ∧ i = .int .i64 k ∧ u = .int .i64 best ∧ v = .int .i64 most ∧ (0 ≤ best ∧ best ≤ 20) ∧ (-1 ≤ most ∧ most ≤ 4000000000000000) ∧ Hid (worstP b xs ss = worstL b xs (ss.drop k) (k : Int) best most) ∧ Below w1.heap.size w1 wr) (fun _ _ i _ => l - (intOf i).toNat)
    case atStart => exact ⟨0, 0, -1, by omega, rfl, rfl, rfl, by omega, by omega, Q0, Below.refl _ _⟩
    case round =>
      obtain ⟨k, best, most, hk, rfl, rfl, rfl, hbest, hmost, HQ, hbr⟩ := hrel
      obtain ⟨be0, be1⟩ := hbest
      obtain ⟨mo0, mo1⟩ := hmost
      have hbw0 := HBW1.out.trans (hbr.mono HBW1.out.size)
      by_cases hlt : k < l
      · obtain ⟨x, hx⟩ := get_of_lt (xs := ss) (k := k) (by rw [HLL.out]; exact hlt)
        obtain ⟨ad, rfl, had, _, hc⟩ := (HLX1.out.past hbr).at' (scenarioRows_get hx)
        obtain ⟨V, hV⟩ : ∃ V, reqP b xs x = V := ⟨_, rfl⟩
        obtain ⟨V1, V2⟩ := V
        obtain ⟨⟨v1, v2⟩, hcode⟩ := reqP_code hV
        have HFx := Lib.hid (HLF.out x (List.mem_of_getElem? hx))
        have Hc := Lib.hid hc; clear hc
        have hki : (k : Int) < (l : Int) := by omega
        have HV := Lib.hid hV
        have Hx := Lib.hid hx

        have hbn : Below wr.heap.size wr (wr.alloc (.cells #[.int .i64 x.rate, .int .i64 x.death] 31)) := (Below.refl _ wr).alloc (Nat.le_refl _) _
        have HBTr := Lib.hid ((HBT1.out.past hbr).past hbn)
        have HXr := Lib.hid ((HX1.out.past hbr).past hbn)
        have hcBr := Lib.hid (Blk.agg (cs := [.int .i64 b.first, .slice A n cap, .int .i64 b.rate]) ((HB1.out.below' hbr).below' hbn) 0 [.int .i64 b.first, .slice A n cap, .int .i64 b.rate] rfl)
        have hcNr := Lib.hid (Blk.agg (cs := [.int .i64 x.rate, .int .i64 x.death]) (Blk.new wr 31 #[.int .i64 x.rate, .int .i64 x.death]) 0 [.int .i64 x.rate, .int .i64 x.death] rfl)
        have hbn1 := hbr.trans (hbn.mono hbr.size)
        have hbw9 := HBW1.out.trans (hbn1.mono HBW1.out.size)
        clear hbw0 hbr

        by_cases hcz : V2 = 0
        rotate_left
        · have Q := Lib.hid (show worstP b xs ss = (0, 0, V2) by rw [HQ.out, worst_bad _ _ _ Hx.out HV.out hcz])
          have hz : (V2 == 0) = false := by simp [hcz]
          have hz2 : (V2 != 0) = true := by simp [hcz]
          clear hcz hcode hV hx
          go_wp2_with (first | (refine wpList_load_agg rfl 28 _ rfl ⟨w.heap.size, 0, none⟩ rfl [.int .i64 b.first, .slice A n cap, .int .i64 b.rate] hcBr.out _ Tryz.underlying28 rfl Bas.size ?_) | (refine wpList_load_agg rfl 31 _ rfl (ad.add (k * 2)) rfl [.int .i64 x.rate, .int .i64 x.death] Hc.out _ Tryz.underlying31 rfl Scenario.size ?_) | (refine wpList_load_agg rfl 31 _ rfl ⟨wr.heap.size, 0, none⟩ rfl [.int .i64 x.rate, .int .i64 x.death] hcNr.out _ Tryz.underlying31 rfl Scenario.size ?_) | (go_at_call 10; refine (impl_RequiredReserve_any b A n cap H m hcap xs x _ HBTr.out HL.out hm HXr.out HF.out HFx.out).mono ?_; rw [HV.out]; rintro e w2 ⟨rfl, hb2⟩))
          have hbw2 := hbw9.trans (hb2.mono hbw9.size)
          have hbr2 := hbn1.trans (hb2.mono hbn1.size)
          go_wp2
          go_ret3
          exact ⟨by rw [Q.out]; rfl, hbw2⟩
        subst hcz
        by_cases hmo : most < V1
        · have Q := Lib.hid (show worstP b xs ss = worstL b xs (ss.drop (k + 1)) ((k : Int) + 1) k V1 by rw [HQ.out, worst_more _ _ _ Hx.out HV.out hmo])
          clear hV hx
          go_wp2_with (first | (refine wpList_load_agg rfl 28 _ rfl ⟨w.heap.size, 0, none⟩ rfl [.int .i64 b.first, .slice A n cap, .int .i64 b.rate] hcBr.out _ Tryz.underlying28 rfl Bas.size ?_) | (refine wpList_load_agg rfl 31 _ rfl (ad.add (k * 2)) rfl [.int .i64 x.rate, .int .i64 x.death] Hc.out _ Tryz.underlying31 rfl Scenario.size ?_) | (refine wpList_load_agg rfl 31 _ rfl ⟨wr.heap.size, 0, none⟩ rfl [.int .i64 x.rate, .int .i64 x.death] hcNr.out _ Tryz.underlying31 rfl Scenario.size ?_) | (go_at_call 10; refine (impl_RequiredReserve_any b A n cap H m hcap xs x _ HBTr.out HL.out hm HXr.out HF.out HFx.out).mono ?_; rw [HV.out]; rintro e w2 ⟨rfl, hb2⟩))
          have hbw2 := hbw9.trans (hb2.mono hbw9.size)
          have hbr2 := hbn1.trans (hb2.mono hbn1.size)
          go_wp2
          go_roundw
          case rel => exact ⟨k + 1, k, V1, by omega, by go_num, rfl, rfl, by omega, by omega, Lib.hid (by rw [Q.out]; simp), hbr2⟩
          case measure => simp [intOf]; omega
        · have Q := Lib.hid (show worstP b xs ss = worstL b xs (ss.drop (k + 1)) ((k : Int) + 1) best most by rw [HQ.out, worst_less _ _ _ Hx.out HV.out hmo])
          clear hV hx
          go_wp2_with (first | (refine wpList_load_agg rfl 28 _ rfl ⟨w.heap.size, 0, none⟩ rfl [.int .i64 b.first, .slice A n cap, .int .i64 b.rate] hcBr.out _ Tryz.underlying28 rfl Bas.size ?_) | (refine wpList_load_agg rfl 31 _ rfl (ad.add (k * 2)) rfl [.int .i64 x.rate, .int .i64 x.death] Hc.out _ Tryz.underlying31 rfl Scenario.size ?_) | (refine wpList_load_agg rfl 31 _ rfl ⟨wr.heap.size, 0, none⟩ rfl [.int .i64 x.rate, .int .i64 x.death] hcNr.out _ Tryz.underlying31 rfl Scenario.size ?_) | (go_at_call 10; refine (impl_RequiredReserve_any b A n cap H m hcap xs x _ HBTr.out HL.out hm HXr.out HF.out HFx.out).mono ?_; rw [HV.out]; rintro e w2 ⟨rfl, hb2⟩))
          have hbw2 := hbw9.trans (hb2.mono hbw9.size)
          have hbr2 := hbn1.trans (hb2.mono hbn1.size)
          go_wp2
          go_roundw
          case rel => exact ⟨k + 1, best, most, by omega, by go_num, rfl, rfl, by omega, by omega, Lib.hid (by rw [Q.out]; simp), hbr2⟩
          case measure => simp [intOf]; omega
      · have hkn : k = l := by omega
        subst hkn
        have Q := Lib.hid (show worstP b xs ss = (best, most, 0) by rw [HQ.out, worst_end _ _ _ HLL.out])
        go_wp2
        go_ret3
        exact ⟨by rw [Q.out]; rfl, hbw0⟩


set_option maxRecDepth 100000 in
set_option maxHeartbeats 8000000 in
theorem spec_WorstScenario_any (b : Bas) (A : Option Addr) (n cap : Nat) (H : Option Addr) (m hcap : Nat) (xs : List Holding) (L : Option Addr) (l lcap : Nat) (ss : List Scenario) (w : World) (hB : BasT w A n cap b) (hl : xs.length = m) (hm : m ≤ 1048576) (hX : Rd w w.heap.size H 7 (holdingRows xs)) (hf : ∀ x ∈ xs, x.fits) (hll : ss.length = l) (hlm : l ≤ 1048576) (hLX : Rd w w.heap.size L 2 (scenarioRows ss)) (hlf : ∀ x ∈ ss, x.fits) :
    Calls Tryz.prog 30 #[.agg #[.int .i64 b.first, .slice A n cap, .int .i64 b.rate], .slice H m hcap, .slice L l lcap] w fun e w' => e = .returned (.tuple #[.int .i64 (worstP b xs ss).1, .int .i64 (worstP b xs ss).2.1, .int .i64 (worstP b xs ss).2.2]) ∧ Below w.heap.size w w' := by
  have hbw : Below w.heap.size w (w.alloc (.cells #[.int .i64 b.first, .slice A n cap, .int .i64 b.rate] 28)) := (Below.refl _ w).alloc (Nat.le_refl _) _
  have HB := Lib.hid (Blk.new w 28 #[.int .i64 b.first, .slice A n cap, .int .i64 b.rate])
  have HBT := Lib.hid (hB.past hbw); clear hB
  have HX := Lib.hid (hX.past hbw); clear hX
  have HLX := Lib.hid (hLX.past hbw); clear hLX
  have HL := Lib.hid hl; clear hl
  have HF := Lib.hid hf; clear hf
  have HLL := Lib.hid hll; clear hll
  have HLF := Lib.hid hlf; clear hlf
  have HBW := Lib.hid hbw; clear hbw
  have hcB0 := Lib.hid (Blk.agg (cs := [.int .i64 b.first, .slice A n cap, .int .i64 b.rate]) HB.out 0 [.int .i64 b.first, .slice A n cap, .int .i64 b.rate] rfl)
  cases hp : portB b xs
  · have Q := Lib.hid (show worstP b xs ss = (0, 0, 1) by simp [worstP, hp])
    go_enter Tryz.func30, Tryz.ntmps30
    go_wp2_with (first | (refine wpList_load_agg rfl 28 _ rfl ⟨w.heap.size, 0, none⟩ rfl [.int .i64 b.first, .slice A n cap, .int .i64 b.rate] hcB0.out _ Tryz.underlying28 rfl Bas.size ?_))
    refine (spec_IsPortfolio_any b A n cap H m hcap xs _ HBT.out HL.out hm HX.out HF.out).mono ?_
    rw [hp]
    rintro e w1 ⟨rfl, hb1⟩
    have hb01 := HBW.out.trans (hb1.mono HBW.out.size)
    go_wp2
    go_ret3
    exact ⟨by rw [Q.out]; rfl, hb01⟩
  cases hi : inR (l : Int) 1 20
  · have Q := Lib.hid (show worstP b xs ss = (0, 0, 2) by simp [worstP, hp, HLL.out, hi])
    have hlr : l < 1 ∨ 20 < l := by have := inR_false.1 hi; omega
    clear hi
    rcases hlr with hlr | hlr
    all_goals
      go_enter Tryz.func30, Tryz.ntmps30
      go_wp2_with (first | (refine wpList_load_agg rfl 28 _ rfl ⟨w.heap.size, 0, none⟩ rfl [.int .i64 b.first, .slice A n cap, .int .i64 b.rate] hcB0.out _ Tryz.underlying28 rfl Bas.size ?_))
      refine (spec_IsPortfolio_any b A n cap H m hcap xs _ HBT.out HL.out hm HX.out HF.out).mono ?_
      rw [hp]
      rintro e w1 ⟨rfl, hb1⟩
      have hb01 := HBW.out.trans (hb1.mono HBW.out.size)
      go_wp2
      go_ret3
      exact ⟨by rw [Q.out]; rfl, hb01⟩
  have Q0 := Lib.hid (show worstP b xs ss = worstL b xs (ss.drop 0) 0 0 (-1) by simp [worstP, hp, HLL.out, hi])
  have hlr : 1 ≤ l ∧ l ≤ 20 := by have := inR_true.1 hi; omega
  obtain ⟨hl1, hl20⟩ := hlr
  clear hi
  · go_enter Tryz.func30, Tryz.ntmps30
    go_wp2_with (first | (refine wpList_load_agg rfl 28 _ rfl ⟨w.heap.size, 0, none⟩ rfl [.int .i64 b.first, .slice A n cap, .int .i64 b.rate] hcB0.out _ Tryz.underlying28 rfl Bas.size ?_))
    refine (spec_IsPortfolio_any b A n cap H m hcap xs _ HBT.out HL.out hm HX.out HF.out).mono ?_
    rw [hp]
    rintro e w1 ⟨rfl, hb1⟩
    have hb01 := HBW.out.trans (hb1.mono HBW.out.size)
    have HBT1 := Lib.hid (HBT.out.past hb1)
    have HX1 := Lib.hid (HX.out.past hb1)
    have HLX1 := Lib.hid (HLX.out.past hb1)
    have HB1 := Lib.hid (HB.out.below' hb1)
    have HBW1 := Lib.hid hb01
    clear hb1 hb01
    go_wp2_with fail
    go_loopw [9, 10, 11] (fun u v i wr => ∃ (k : Nat) (best most : Int), k ≤ l ∧ i = .int .i64 k ∧ u = .int .i64 best ∧ v = .int .i64 most ∧ (0 ≤ best ∧ best ≤ 20) ∧ (-1 ≤ most ∧ most ≤ 4000000000000000) ∧ Hid (worstP b xs ss = worstL b xs (ss.drop k) (k : Int) best most) ∧ Below w1.heap.size w1 wr) (fun _ _ i _ => l - (intOf i).toNat)
    case atStart => exact ⟨0, 0, -1, by omega, rfl, rfl, rfl, by omega, by omega, Q0, Below.refl _ _⟩
    case round =>
      obtain ⟨k, best, most, hk, rfl, rfl, rfl, hbest, hmost, HQ, hbr⟩ := hrel
      obtain ⟨be0, be1⟩ := hbest
      obtain ⟨mo0, mo1⟩ := hmost
      have hbw0 := HBW1.out.trans (hbr.mono HBW1.out.size)
      by_cases hlt : k < l
      · obtain ⟨x, hx⟩ := get_of_lt (xs := ss) (k := k) (by rw [HLL.out]; exact hlt)
        obtain ⟨ad, rfl, had, _, hc⟩ := (HLX1.out.past hbr).at' (scenarioRows_get hx)
        obtain ⟨V, hV⟩ : ∃ V, reqP b xs x = V := ⟨_, rfl⟩
        obtain ⟨V1, V2⟩ := V
        obtain ⟨⟨v1, v2⟩, hcode⟩ := reqP_code hV
        have HFx := Lib.hid (HLF.out x (List.mem_of_getElem? hx))
        have Hc := Lib.hid hc; clear hc
        have hki : (k : Int) < (l : Int) := by omega
        have HV := Lib.hid hV
        have Hx := Lib.hid hx

        have HBTr := Lib.hid (HBT1.out.past hbr)
        have HXr := Lib.hid (HX1.out.past hbr)
        have hcBr := Lib.hid (Blk.agg_past (cs := [.int .i64 b.first, .slice A n cap, .int .i64 b.rate]) (HB1.out.below' hbr) 0 [.int .i64 b.first, .slice A n cap, .int .i64 b.rate] rfl)
        have hcNr := Lib.hid (Past.cells' Hc.out)
        have hkn : k < l := hlt
        have HVs := Lib.hid (show reqIn b xs x true = (V1, V2) from hV)

        by_cases hcz : V2 = 0
        rotate_left
        · have Q := Lib.hid (show worstP b xs ss = (0, 0, V2) by rw [HQ.out, worst_bad _ _ _ Hx.out HV.out hcz])
          have hz : (V2 == 0) = false := by simp [hcz]
          have hz2 : (V2 != 0) = true := by simp [hcz]
          clear hcz hcode hV hx
          go_wp2
          refine wp_region_past (by kernel_rfl) (by kernel_rfl) ?_
          repeat (first | (go_big_quiet_want; (first | (first | (refine quiet_load_agg 28 _ rfl ⟨w.heap.size, 0, none⟩ rfl [.int .i64 b.first, .slice A n cap, .int .i64 b.rate] hcBr.out _ Tryz.underlying28 rfl Bas.size ?_) | (refine quiet_load_agg 31 _ rfl (ad.add (k * 2)) rfl [.int .i64 x.rate, .int .i64 x.death] hcNr.out _ Tryz.underlying31 rfl Scenario.size ?_))); go_simp; go_big_quiet_on) | go_big_quiet_step ((first | (go_at_call 78; exact past_call ((spec_l21Required_any b A n cap H m hcap xs x true _ (HBTr.out.at_past _) HL.out hm (HXr.out.past (Subtype.property _)) HF.out HFx.out).mono (by rw [HVs.out]; exact fun _ _ h => h))))))
          refine wpQuiet_nil ?_
          rintro _ ⟨y, rfl⟩
          have hbw2 := hbw0.trans (y.2.mono hbw0.size)
          have hbr2 := hbr.trans (y.2.mono hbr.size)
          go_wp2
          go_ret3
          exact ⟨by rw [Q.out]; rfl, hbw2⟩
        subst hcz
        by_cases hmo : most < V1
        · have Q := Lib.hid (show worstP b xs ss = worstL b xs (ss.drop (k + 1)) ((k : Int) + 1) k V1 by rw [HQ.out, worst_more _ _ _ Hx.out HV.out hmo])
          clear hV hx
          go_wp2
          refine wp_region_past (by kernel_rfl) (by kernel_rfl) ?_
          repeat (first | (go_big_quiet_want; (first | (first | (refine quiet_load_agg 28 _ rfl ⟨w.heap.size, 0, none⟩ rfl [.int .i64 b.first, .slice A n cap, .int .i64 b.rate] hcBr.out _ Tryz.underlying28 rfl Bas.size ?_) | (refine quiet_load_agg 31 _ rfl (ad.add (k * 2)) rfl [.int .i64 x.rate, .int .i64 x.death] hcNr.out _ Tryz.underlying31 rfl Scenario.size ?_))); go_simp; go_big_quiet_on) | go_big_quiet_step ((first | (go_at_call 78; exact past_call ((spec_l21Required_any b A n cap H m hcap xs x true _ (HBTr.out.at_past _) HL.out hm (HXr.out.past (Subtype.property _)) HF.out HFx.out).mono (by rw [HVs.out]; exact fun _ _ h => h))))))
          refine wpQuiet_nil ?_
          rintro _ ⟨y, rfl⟩
          have hbw2 := hbw0.trans (y.2.mono hbw0.size)
          have hbr2 := hbr.trans (y.2.mono hbr.size)
          go_wp2
          go_roundw
          case rel => exact ⟨k + 1, k, V1, by omega, by go_num, rfl, rfl, by omega, by omega, Lib.hid (by rw [Q.out]; simp), hbr2⟩
          case measure => simp [intOf]; omega
        · have Q := Lib.hid (show worstP b xs ss = worstL b xs (ss.drop (k + 1)) ((k : Int) + 1) best most by rw [HQ.out, worst_less _ _ _ Hx.out HV.out hmo])
          clear hV hx
          go_wp2
          refine wp_region_past (by kernel_rfl) (by kernel_rfl) ?_
          repeat (first | (go_big_quiet_want; (first | (first | (refine quiet_load_agg 28 _ rfl ⟨w.heap.size, 0, none⟩ rfl [.int .i64 b.first, .slice A n cap, .int .i64 b.rate] hcBr.out _ Tryz.underlying28 rfl Bas.size ?_) | (refine quiet_load_agg 31 _ rfl (ad.add (k * 2)) rfl [.int .i64 x.rate, .int .i64 x.death] hcNr.out _ Tryz.underlying31 rfl Scenario.size ?_))); go_simp; go_big_quiet_on) | go_big_quiet_step ((first | (go_at_call 78; exact past_call ((spec_l21Required_any b A n cap H m hcap xs x true _ (HBTr.out.at_past _) HL.out hm (HXr.out.past (Subtype.property _)) HF.out HFx.out).mono (by rw [HVs.out]; exact fun _ _ h => h))))))
          refine wpQuiet_nil ?_
          rintro _ ⟨y, rfl⟩
          have hbw2 := hbw0.trans (y.2.mono hbw0.size)
          have hbr2 := hbr.trans (y.2.mono hbr.size)
          go_wp2
          go_roundw
          case rel => exact ⟨k + 1, best, most, by omega, by go_num, rfl, rfl, by omega, by omega, Lib.hid (by rw [Q.out]; simp), hbr2⟩
          case measure => simp [intOf]; omega
      · have hkn : k = l := by omega
        subst hkn
        have Q := Lib.hid (show worstP b xs ss = (best, most, 0) by rw [HQ.out, worst_end _ _ _ HLL.out])
        go_wp2
        go_ret3
        exact ⟨by rw [Q.out]; rfl, hbw0⟩

end Go.Proofs.YtbjdbpdgacfcpaaGreat
end
