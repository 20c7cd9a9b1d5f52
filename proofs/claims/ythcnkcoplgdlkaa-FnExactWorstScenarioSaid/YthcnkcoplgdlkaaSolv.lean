/- The money that misses, the rate of solvency: the program's and the reference's contracts. -/
import Derived.Test.YthcnkcoplgdlkaaReq
namespace Go.Proofs.Ythcnkcoplgdlkaa
open Go.RowKit Go.BigFrame

def reqFor (b : Bas) (xs : List Holding) (r : Scenario) (f : Int) : Int × Int := reqIn b xs r (inR f 0 1000000000000)
def missP (b : Bas) (xs : List Holding) (r : Scenario) (f : Int) : Int × Int := if (reqFor b xs r f).2 = 0 then (max 0 ((reqFor b xs r f).1 - f), 0) else (0, (reqFor b xs r f).2)
def solvP (b : Bas) (xs : List Holding) (r : Scenario) (f : Int) : Int × Int :=
  if (reqFor b xs r f).2 = 0 then (if (reqFor b xs r f).1 = 0 then (0, 4) else (if f * 1000 / (reqFor b xs r f).1 ≤ 1000000000000 then (f * 1000 / (reqFor b xs r f).1, 0) else (0, 3))) else (0, (reqFor b xs r f).2)
theorem reqIn_bound (b : Bas) (xs : List Holding) (r : Scenario) (i : Bool) : (0 ≤ (reqIn b xs r i).1 ∧ (reqIn b xs r i).1 ≤ 4000000000000000) ∧ ((reqIn b xs r i).2 = 0 ∨ (reqIn b xs r i).2 = 1 ∨ (reqIn b xs r i).2 = 2 ∨ (reqIn b xs r i).2 = 5) ∧ (i = false → (reqIn b xs r i).2 ≠ 0) := by
  unfold reqIn
  split
  · rename_i hp
    split
    · rename_i hs
      split
      · rename_i hp2
        have h := (reqL_sums (port_hold hp).1 (port_hold hp).2 (port_hold hp2).2).2
        refine ⟨by simp only; omega, .inl rfl, fun hi => ?_⟩
        subst hi; simp at hs
      · refine ⟨by simp, by simp, by simp⟩
    · refine ⟨by simp, by simp, by simp⟩
  · refine ⟨by simp, by simp, by simp⟩
theorem reqFor_fund {b : Bas} {xs : List Holding} {r : Scenario} {f : Int} (h : (reqFor b xs r f).2 = 0) : 0 ≤ f ∧ f ≤ 1000000000000 := by
  have h1 := (reqIn_bound b xs r (inR f 0 1000000000000)).2.2
  cases hi : inR f 0 1000000000000
  · unfold reqFor at h; rw [hi] at h h1; exact absurd h (h1 rfl)
  · exact inR_true.1 hi
theorem rate_parts {f n : Int} (hf : 0 ≤ f ∧ f ≤ 1000000000000) (hn : 1 ≤ n) : 0 ≤ f * 1000 / n ∧ f * 1000 / n ≤ 1000000000000000 := by
  have h1 := Int.ediv_nonneg (show 0 ≤ f * 1000 by omega) (show 0 ≤ n by omega)
  have h2 := Int.ediv_le_self n (show 0 ≤ f * 1000 by omega)
  omega

set_option maxHeartbeats 4000000 in
theorem impl_requiredFor_any (b : Bas) (A : Option Addr) (n cap : Nat) (H : Option Addr) (m hcap : Nat) (xs : List Holding) (r : Scenario) (f : Int) (w : World) (hB : BasT w A n cap b) (hl : xs.length = m) (hm : m ≤ 1048576) (hX : Rd w w.heap.size H 7 (holdingRows xs)) (hf : ∀ x ∈ xs, x.fits) (_hr : r.fits) :
    Calls Try.prog 145 #[.agg #[.int .i64 b.first, .slice A n cap, .int .i64 b.rate], .slice H m hcap, .agg r.row.toArray, .int .i64 f] w fun e w' => e = .returned (.tuple #[.int .i64 (reqFor b xs r f).1, .int .i64 (reqFor b xs r f).2]) ∧ Below w.heap.size w w' := by
  have hbw : Below w.heap.size w ((w.alloc (.cells #[.int .i64 b.first, .slice A n cap, .int .i64 b.rate] 32)).alloc (.cells #[.int .i64 r.rate, .int .i64 r.death] 36)) := ((Below.refl _ w).alloc (Nat.le_refl _) _).alloc (by simp) _
  have HB := Lib.hid ((Blk.new w 32 #[.int .i64 b.first, .slice A n cap, .int .i64 b.rate]).alloc (.cells #[.int .i64 r.rate, .int .i64 r.death] 36))
  have HC := Lib.hid (Blk.new (w.alloc (.cells #[.int .i64 b.first, .slice A n cap, .int .i64 b.rate] 32)) 36 #[.int .i64 r.rate, .int .i64 r.death])
  simp only [World.size_alloc] at HC
  have HBT := Lib.hid (hB.past hbw); clear hB
  have HX := Lib.hid (hX.past hbw); clear hX
  have HL := Lib.hid hl; clear hl
  have HF := Lib.hid hf; clear hf
  have HRF := Lib.hid _hr; clear _hr
  unfold Scenario.row at *
  have hcB0 := Lib.hid (Blk.agg (cs := [.int .i64 b.first, .slice A n cap, .int .i64 b.rate]) HB.out 0 [.int .i64 b.first, .slice A n cap, .int .i64 b.rate] rfl)
  have hcC0 := Lib.hid (Blk.agg (cs := [.int .i64 r.rate, .int .i64 r.death]) HC.out 0 [.int .i64 r.rate, .int .i64 r.death] rfl)
  cases hp : portB b xs
  · have Q := Lib.hid (show reqFor b xs r f = (0, 1) by simp [reqFor, reqIn, hp])
    go_enter Try.func145, Try.ntmps145
    go_wp2_with (first | (refine wpList_load_agg rfl 32 _ rfl ⟨w.heap.size, 0, none⟩ rfl [.int .i64 b.first, .slice A n cap, .int .i64 b.rate] hcB0.out _ Try.underlying32 rfl Bas.size ?_) | (refine wpList_load_agg rfl 36 _ rfl ⟨w.heap.size + 1, 0, none⟩ rfl [.int .i64 r.rate, .int .i64 r.death] hcC0.out _ Try.underlying36 rfl Scenario.size ?_))
    refine (impl_IsPortfolio_any b A n cap H m hcap xs _ HBT.out HL.out hm HX.out HF.out).mono ?_
    rw [hp]
    rintro e w1 ⟨rfl, hb1⟩
    go_wp2
    go_ret2
    exact ⟨by rw [Q.out]; rfl, hbw.trans (hb1.mono hbw.size)⟩
  cases hi : inR f 0 1000000000000
  · have Q := Lib.hid (show reqFor b xs r f = (0, 2) by simp [reqFor, reqIn, hp, hi])
    go_enter Try.func145, Try.ntmps145
    go_wp2_with (first | (refine wpList_load_agg rfl 32 _ rfl ⟨w.heap.size, 0, none⟩ rfl [.int .i64 b.first, .slice A n cap, .int .i64 b.rate] hcB0.out _ Try.underlying32 rfl Bas.size ?_) | (refine wpList_load_agg rfl 36 _ rfl ⟨w.heap.size + 1, 0, none⟩ rfl [.int .i64 r.rate, .int .i64 r.death] hcC0.out _ Try.underlying36 rfl Scenario.size ?_))
    refine (impl_IsPortfolio_any b A n cap H m hcap xs _ HBT.out HL.out hm HX.out HF.out).mono ?_
    rw [hp]
    rintro e w1 ⟨rfl, hb1⟩
    go_wp2_with (first | (go_at_call 85; refine (impl_inRange_any _ _ _ _).mono ?_; rintro e w' ⟨rfl, rfl⟩))
    go_ret2
    exact ⟨by rw [Q.out]; rfl, hbw.trans (hb1.mono hbw.size)⟩
  · have Q := Lib.hid (show reqFor b xs r f = reqP b xs r by simp [reqFor, reqP, hi])
    go_enter Try.func145, Try.ntmps145
    go_wp2_with (first | (refine wpList_load_agg rfl 32 _ rfl ⟨w.heap.size, 0, none⟩ rfl [.int .i64 b.first, .slice A n cap, .int .i64 b.rate] hcB0.out _ Try.underlying32 rfl Bas.size ?_) | (refine wpList_load_agg rfl 36 _ rfl ⟨w.heap.size + 1, 0, none⟩ rfl [.int .i64 r.rate, .int .i64 r.death] hcC0.out _ Try.underlying36 rfl Scenario.size ?_))
    refine (impl_IsPortfolio_any b A n cap H m hcap xs _ HBT.out HL.out hm HX.out HF.out).mono ?_
    rw [hp]
    rintro e w1 ⟨rfl, hb1⟩
    have hb01 := hbw.trans (hb1.mono hbw.size)
    have hcB1 := Lib.hid (Blk.agg (cs := [.int .i64 b.first, .slice A n cap, .int .i64 b.rate]) (HB.out.below' hb1) 0 [.int .i64 b.first, .slice A n cap, .int .i64 b.rate] rfl)
    have hcC1 := Lib.hid (Blk.agg (cs := [.int .i64 r.rate, .int .i64 r.death]) (HC.out.below' hb1) 0 [.int .i64 r.rate, .int .i64 r.death] rfl)
    go_wp2_with (first | (go_at_call 85; refine (impl_inRange_any _ _ _ _).mono ?_; rintro e w' ⟨rfl, rfl⟩) | (refine wpList_load_agg rfl 32 _ rfl ⟨w.heap.size, 0, none⟩ rfl [.int .i64 b.first, .slice A n cap, .int .i64 b.rate] hcB1.out _ Try.underlying32 rfl Bas.size ?_) | (refine wpList_load_agg rfl 36 _ rfl ⟨w.heap.size + 1, 0, none⟩ rfl [.int .i64 r.rate, .int .i64 r.death] hcC1.out _ Try.underlying36 rfl Scenario.size ?_))
    refine (impl_RequiredReserve_any b A n cap H m hcap xs r _ (HBT.out.past hb1) HL.out hm (HX.out.past hb1) HF.out HRF.out).mono ?_
    rintro e w2 ⟨rfl, hb2⟩
    go_wp2
    go_ret2
    exact ⟨by rw [Q.out]; rfl, hb01.trans (hb2.mono hb01.size)⟩




set_option maxHeartbeats 4000000 in
theorem impl_SolvencyRate_any (b : Bas) (A : Option Addr) (n cap : Nat) (H : Option Addr) (m hcap : Nat) (xs : List Holding) (r : Scenario) (f : Int) (w : World) (hB : BasT w A n cap b) (hl : xs.length = m) (hm : m ≤ 1048576) (hX : Rd w w.heap.size H 7 (holdingRows xs)) (hf : ∀ x ∈ xs, x.fits) (_hr : r.fits) (_hf : In64 f) :
    Calls Try.prog 69 #[.agg #[.int .i64 b.first, .slice A n cap, .int .i64 b.rate], .slice H m hcap, .agg r.row.toArray, .int .i64 f] w fun e w' => e = .returned (.tuple #[.int .i64 (solvP b xs r f).1, .int .i64 (solvP b xs r f).2]) ∧ Below w.heap.size w w' := by
  have hbw : Below w.heap.size w ((w.alloc (.cells #[.int .i64 b.first, .slice A n cap, .int .i64 b.rate] 32)).alloc (.cells #[.int .i64 r.rate, .int .i64 r.death] 36)) := ((Below.refl _ w).alloc (Nat.le_refl _) _).alloc (by simp) _
  have HB := Lib.hid ((Blk.new w 32 #[.int .i64 b.first, .slice A n cap, .int .i64 b.rate]).alloc (.cells #[.int .i64 r.rate, .int .i64 r.death] 36))
  have HC := Lib.hid (Blk.new (w.alloc (.cells #[.int .i64 b.first, .slice A n cap, .int .i64 b.rate] 32)) 36 #[.int .i64 r.rate, .int .i64 r.death])
  simp only [World.size_alloc] at HC
  have HBT := Lib.hid (hB.past hbw); clear hB
  have HX := Lib.hid (hX.past hbw); clear hX
  have HL := Lib.hid hl; clear hl
  have HF := Lib.hid hf; clear hf
  have HRF := Lib.hid _hr; clear _hr
  unfold Scenario.row at *
  have hcB0 := Lib.hid (Blk.agg (cs := [.int .i64 b.first, .slice A n cap, .int .i64 b.rate]) HB.out 0 [.int .i64 b.first, .slice A n cap, .int .i64 b.rate] rfl)
  have hcC0 := Lib.hid (Blk.agg (cs := [.int .i64 r.rate, .int .i64 r.death]) HC.out 0 [.int .i64 r.rate, .int .i64 r.death] rfl)
  have hbd := reqIn_bound b xs r (inR f 0 1000000000000)
  have HFU := Lib.hid (fun h => reqFor_fund (b := b) (xs := xs) (r := r) (f := f) h)
  have QP := Lib.hid (show solvP b xs r f = if (reqIn b xs r (inR f 0 1000000000000)).2 = 0 then (if (reqIn b xs r (inR f 0 1000000000000)).1 = 0 then (0, 4) else (if f * 1000 / (reqIn b xs r (inR f 0 1000000000000)).1 ≤ 1000000000000 then (f * 1000 / (reqIn b xs r (inR f 0 1000000000000)).1, 0) else (0, 3))) else (0, (reqIn b xs r (inR f 0 1000000000000)).2) from rfl)
  unfold reqFor at *
  obtain ⟨V, hV⟩ : ∃ V, reqIn b xs r (inR f 0 1000000000000) = V := ⟨_, rfl⟩
  rw [hV] at hbd HFU QP
  have HV := Lib.hid hV; clear hV
  obtain ⟨V1, V2⟩ := V
  obtain ⟨⟨v1, v2⟩, hcode, _⟩ := hbd
  simp only at v1 v2 HFU QP
  by_cases hc : V2 = 0
  rotate_left
  · have Q := Lib.hid (show solvP b xs r f = (0, V2) by rw [QP.out, if_neg hc])
    have hz : (V2 == 0) = false := by simp [hc]
    clear hc hcode
    go_enter Try.func69, Try.ntmps69
    go_wp2_with (first | (refine wpList_load_agg rfl 32 _ rfl ⟨w.heap.size, 0, none⟩ rfl [.int .i64 b.first, .slice A n cap, .int .i64 b.rate] hcB0.out _ Try.underlying32 rfl Bas.size ?_) | (refine wpList_load_agg rfl 36 _ rfl ⟨w.heap.size + 1, 0, none⟩ rfl [.int .i64 r.rate, .int .i64 r.death] hcC0.out _ Try.underlying36 rfl Scenario.size ?_))
    refine (impl_requiredFor_any b A n cap H m hcap xs r f _ HBT.out HL.out hm HX.out HF.out HRF.out).mono ?_
    unfold reqFor
    rw [HV.out]
    rintro e w1 ⟨rfl, hb1⟩
    have HBW := Lib.hid (hbw.trans (hb1.mono hbw.size))
    go_wp2
    go_ret2
    exact ⟨by rw [Q.out]; rfl, HBW.out⟩
  subst hc
  obtain ⟨f0, f1⟩ := HFU.out rfl
  rw [if_pos rfl] at QP
  by_cases hv : V1 = 0
  · have Q := Lib.hid (show solvP b xs r f = (0, 4) by rw [QP.out, if_pos hv])
    have hz : (V1 == 0) = true := by simp [hv]
    have HV0 := Lib.hid hv; clear hv
    go_enter Try.func69, Try.ntmps69
    go_wp2_with (first | (refine wpList_load_agg rfl 32 _ rfl ⟨w.heap.size, 0, none⟩ rfl [.int .i64 b.first, .slice A n cap, .int .i64 b.rate] hcB0.out _ Try.underlying32 rfl Bas.size ?_) | (refine wpList_load_agg rfl 36 _ rfl ⟨w.heap.size + 1, 0, none⟩ rfl [.int .i64 r.rate, .int .i64 r.death] hcC0.out _ Try.underlying36 rfl Scenario.size ?_))
    refine (impl_requiredFor_any b A n cap H m hcap xs r f _ HBT.out HL.out hm HX.out HF.out HRF.out).mono ?_
    unfold reqFor
    rw [HV.out]
    rintro e w1 ⟨rfl, hb1⟩
    have HBW := Lib.hid (hbw.trans (hb1.mono hbw.size))
    go_wp2
    go_ret2
    exact ⟨by rw [Q.out]; rfl, HBW.out⟩
  have hz : (V1 == 0) = false := by simp [hv]
  have hv1 : 1 ≤ V1 := by omega
  rw [if_neg hv] at QP
  obtain ⟨r0, r1⟩ := rate_parts ⟨f0, f1⟩ hv1
  clear hv
  by_cases hq : f * 1000 / V1 ≤ 1000000000000
  · have Q := Lib.hid (show solvP b xs r f = (f * 1000 / V1, 0) by rw [QP.out, if_pos hq])
    go_enter Try.func69, Try.ntmps69
    go_wp2_with (first | (refine wpList_load_agg rfl 32 _ rfl ⟨w.heap.size, 0, none⟩ rfl [.int .i64 b.first, .slice A n cap, .int .i64 b.rate] hcB0.out _ Try.underlying32 rfl Bas.size ?_) | (refine wpList_load_agg rfl 36 _ rfl ⟨w.heap.size + 1, 0, none⟩ rfl [.int .i64 r.rate, .int .i64 r.death] hcC0.out _ Try.underlying36 rfl Scenario.size ?_))
    refine (impl_requiredFor_any b A n cap H m hcap xs r f _ HBT.out HL.out hm HX.out HF.out HRF.out).mono ?_
    unfold reqFor
    rw [HV.out]
    rintro e w1 ⟨rfl, hb1⟩
    have HBW := Lib.hid (hbw.trans (hb1.mono hbw.size))
    go_wp2
    go_ret2
    exact ⟨by rw [Q.out]; rfl, HBW.out⟩
  · have Q := Lib.hid (show solvP b xs r f = (0, 3) by rw [QP.out, if_neg hq])
    go_enter Try.func69, Try.ntmps69
    go_wp2_with (first | (refine wpList_load_agg rfl 32 _ rfl ⟨w.heap.size, 0, none⟩ rfl [.int .i64 b.first, .slice A n cap, .int .i64 b.rate] hcB0.out _ Try.underlying32 rfl Bas.size ?_) | (refine wpList_load_agg rfl 36 _ rfl ⟨w.heap.size + 1, 0, none⟩ rfl [.int .i64 r.rate, .int .i64 r.death] hcC0.out _ Try.underlying36 rfl Scenario.size ?_))
    refine (impl_requiredFor_any b A n cap H m hcap xs r f _ HBT.out HL.out hm HX.out HF.out HRF.out).mono ?_
    unfold reqFor
    rw [HV.out]
    rintro e w1 ⟨rfl, hb1⟩
    have HBW := Lib.hid (hbw.trans (hb1.mono hbw.size))
    go_wp2
    go_ret2
    exact ⟨by rw [Q.out]; rfl, HBW.out⟩




set_option maxHeartbeats 4000000 in
theorem spec_SolvencyRate_any (b : Bas) (A : Option Addr) (n cap : Nat) (H : Option Addr) (m hcap : Nat) (xs : List Holding) (r : Scenario) (f : Int) (w : World) (hB : BasT w A n cap b) (hl : xs.length = m) (hm : m ≤ 1048576) (hX : Rd w w.heap.size H 7 (holdingRows xs)) (hf : ∀ x ∈ xs, x.fits) (_hr : r.fits) (_hf : In64 f) :
    Calls Try.prog 67 #[.agg #[.int .i64 b.first, .slice A n cap, .int .i64 b.rate], .slice H m hcap, .agg r.row.toArray, .int .i64 f] w fun e w' => e = .returned (.tuple #[.int .i64 (solvP b xs r f).1, .int .i64 (solvP b xs r f).2]) ∧ Below w.heap.size w w' := by
  have hbw : Below w.heap.size w ((w.alloc (.cells #[.int .i64 b.first, .slice A n cap, .int .i64 b.rate] 32)).alloc (.cells #[.int .i64 r.rate, .int .i64 r.death] 36)) := ((Below.refl _ w).alloc (Nat.le_refl _) _).alloc (by simp) _
  have HB := Lib.hid ((Blk.new w 32 #[.int .i64 b.first, .slice A n cap, .int .i64 b.rate]).alloc (.cells #[.int .i64 r.rate, .int .i64 r.death] 36))
  have HC := Lib.hid (Blk.new (w.alloc (.cells #[.int .i64 b.first, .slice A n cap, .int .i64 b.rate] 32)) 36 #[.int .i64 r.rate, .int .i64 r.death])
  simp only [World.size_alloc] at HC
  have HBT := Lib.hid (hB.past hbw); clear hB
  have HX := Lib.hid (hX.past hbw); clear hX
  have HL := Lib.hid hl; clear hl
  have HF := Lib.hid hf; clear hf
  have HRF := Lib.hid _hr; clear _hr
  unfold Scenario.row at *
  have hcB0 := Lib.hid (Blk.agg (cs := [.int .i64 b.first, .slice A n cap, .int .i64 b.rate]) HB.out 0 [.int .i64 b.first, .slice A n cap, .int .i64 b.rate] rfl)
  have hcC0 := Lib.hid (Blk.agg (cs := [.int .i64 r.rate, .int .i64 r.death]) HC.out 0 [.int .i64 r.rate, .int .i64 r.death] rfl)
  have hbd := reqIn_bound b xs r (inR f 0 1000000000000)
  have HFU := Lib.hid (fun h => reqFor_fund (b := b) (xs := xs) (r := r) (f := f) h)
  have QP := Lib.hid (show solvP b xs r f = if (reqIn b xs r (inR f 0 1000000000000)).2 = 0 then (if (reqIn b xs r (inR f 0 1000000000000)).1 = 0 then (0, 4) else (if f * 1000 / (reqIn b xs r (inR f 0 1000000000000)).1 ≤ 1000000000000 then (f * 1000 / (reqIn b xs r (inR f 0 1000000000000)).1, 0) else (0, 3))) else (0, (reqIn b xs r (inR f 0 1000000000000)).2) from rfl)
  unfold reqFor at *
  obtain ⟨V, hV⟩ : ∃ V, reqIn b xs r (inR f 0 1000000000000) = V := ⟨_, rfl⟩
  rw [hV] at hbd HFU QP
  have HV := Lib.hid hV; clear hV
  obtain ⟨V1, V2⟩ := V
  obtain ⟨⟨v1, v2⟩, hcode, _⟩ := hbd
  simp only at v1 v2 HFU QP
  by_cases hc : V2 = 0
  rotate_left
  · have Q := Lib.hid (show solvP b xs r f = (0, V2) by rw [QP.out, if_neg hc])
    have hz : (V2 == 0) = false := by simp [hc]
    clear hc hcode
    have HWP := Lib.hid (fun y : Past ((w.alloc (.cells #[.int .i64 b.first, .slice A n cap, .int .i64 b.rate] 32)).alloc (.cells #[.int .i64 r.rate, .int .i64 r.death] 36)) => hbw.trans (y.2.mono hbw.size))
    have hcB := Lib.hid (Blk.agg_past (cs := [.int .i64 b.first, .slice A n cap, .int .i64 b.rate]) HB.out 0 [.int .i64 b.first, .slice A n cap, .int .i64 b.rate] rfl)
    have hcC := Lib.hid (Blk.agg_past (cs := [.int .i64 r.rate, .int .i64 r.death]) HC.out 0 [.int .i64 r.rate, .int .i64 r.death] rfl)
    go_enter Try.func67, Try.ntmps67
    go_wp2
    refine wp_region_past (by kernel_rfl) (by kernel_rfl) ?_
    repeat (first | (go_big_quiet_want; (first | (first | (refine quiet_load_agg 32 _ rfl ⟨w.heap.size, 0, none⟩ rfl [.int .i64 b.first, .slice A n cap, .int .i64 b.rate] hcB.out _ Try.underlying32 rfl Bas.size ?_) | (refine quiet_load_agg 36 _ rfl ⟨w.heap.size + 1, 0, none⟩ rfl [.int .i64 r.rate, .int .i64 r.death] hcC.out _ Try.underlying36 rfl Scenario.size ?_))); go_simp; go_big_quiet_on) | go_big_quiet_step ((first | (go_at_call 143; exact past_same (spec_l21Fund_any f _)) | (go_at_call 142; exact past_call ((spec_l21Required_any b A n cap H m hcap xs r (inR f 0 1000000000000) _ (HBT.out.at_past _) HL.out hm (HX.out.past (Subtype.property _)) HF.out HRF.out).mono (by rw [HV.out]; exact fun _ _ h => h))))))
    refine wpQuiet_nil ?_
    rintro _ ⟨y, rfl⟩
    have HBW := Lib.hid (HWP.out y)
    go_wp2
    go_ret2
    exact ⟨by rw [Q.out]; rfl, HBW.out⟩
  subst hc
  obtain ⟨f0, f1⟩ := HFU.out rfl
  rw [if_pos rfl] at QP
  by_cases hv : V1 = 0
  · have Q := Lib.hid (show solvP b xs r f = (0, 4) by rw [QP.out, if_pos hv])
    have hz : (V1 == 0) = true := by simp [hv]
    have HV0 := Lib.hid hv; clear hv
    have HWP := Lib.hid (fun y : Past ((w.alloc (.cells #[.int .i64 b.first, .slice A n cap, .int .i64 b.rate] 32)).alloc (.cells #[.int .i64 r.rate, .int .i64 r.death] 36)) => hbw.trans (y.2.mono hbw.size))
    have hcB := Lib.hid (Blk.agg_past (cs := [.int .i64 b.first, .slice A n cap, .int .i64 b.rate]) HB.out 0 [.int .i64 b.first, .slice A n cap, .int .i64 b.rate] rfl)
    have hcC := Lib.hid (Blk.agg_past (cs := [.int .i64 r.rate, .int .i64 r.death]) HC.out 0 [.int .i64 r.rate, .int .i64 r.death] rfl)
    go_enter Try.func67, Try.ntmps67
    go_wp2
    refine wp_region_past (by kernel_rfl) (by kernel_rfl) ?_
    repeat (first | (go_big_quiet_want; (first | (first | (refine quiet_load_agg 32 _ rfl ⟨w.heap.size, 0, none⟩ rfl [.int .i64 b.first, .slice A n cap, .int .i64 b.rate] hcB.out _ Try.underlying32 rfl Bas.size ?_) | (refine quiet_load_agg 36 _ rfl ⟨w.heap.size + 1, 0, none⟩ rfl [.int .i64 r.rate, .int .i64 r.death] hcC.out _ Try.underlying36 rfl Scenario.size ?_))); go_simp; go_big_quiet_on) | go_big_quiet_step ((first | (go_at_call 143; exact past_same (spec_l21Fund_any f _)) | (go_at_call 142; exact past_call ((spec_l21Required_any b A n cap H m hcap xs r (inR f 0 1000000000000) _ (HBT.out.at_past _) HL.out hm (HX.out.past (Subtype.property _)) HF.out HRF.out).mono (by rw [HV.out]; exact fun _ _ h => h))))))
    refine wpQuiet_nil ?_
    rintro _ ⟨y, rfl⟩
    have HBW := Lib.hid (HWP.out y)
    go_wp2
    go_ret2
    exact ⟨by rw [Q.out]; rfl, HBW.out⟩
  have hz : (V1 == 0) = false := by simp [hv]
  have hv1 : 1 ≤ V1 := by omega
  rw [if_neg hv] at QP
  obtain ⟨r0, r1⟩ := rate_parts ⟨f0, f1⟩ hv1
  clear hv
  by_cases hq : f * 1000 / V1 ≤ 1000000000000
  · have Q := Lib.hid (show solvP b xs r f = (f * 1000 / V1, 0) by rw [QP.out, if_pos hq])
    have HWP := Lib.hid (fun y : Past ((w.alloc (.cells #[.int .i64 b.first, .slice A n cap, .int .i64 b.rate] 32)).alloc (.cells #[.int .i64 r.rate, .int .i64 r.death] 36)) => hbw.trans (y.2.mono hbw.size))
    have hcB := Lib.hid (Blk.agg_past (cs := [.int .i64 b.first, .slice A n cap, .int .i64 b.rate]) HB.out 0 [.int .i64 b.first, .slice A n cap, .int .i64 b.rate] rfl)
    have hcC := Lib.hid (Blk.agg_past (cs := [.int .i64 r.rate, .int .i64 r.death]) HC.out 0 [.int .i64 r.rate, .int .i64 r.death] rfl)
    go_enter Try.func67, Try.ntmps67
    go_wp2
    refine wp_region_past (by kernel_rfl) (by kernel_rfl) ?_
    repeat (first | (go_big_quiet_want; (first | (first | (refine quiet_load_agg 32 _ rfl ⟨w.heap.size, 0, none⟩ rfl [.int .i64 b.first, .slice A n cap, .int .i64 b.rate] hcB.out _ Try.underlying32 rfl Bas.size ?_) | (refine quiet_load_agg 36 _ rfl ⟨w.heap.size + 1, 0, none⟩ rfl [.int .i64 r.rate, .int .i64 r.death] hcC.out _ Try.underlying36 rfl Scenario.size ?_))); go_simp; go_big_quiet_on) | go_big_quiet_step ((first | (go_at_call 143; exact past_same (spec_l21Fund_any f _)) | (go_at_call 142; exact past_call ((spec_l21Required_any b A n cap H m hcap xs r (inR f 0 1000000000000) _ (HBT.out.at_past _) HL.out hm (HX.out.past (Subtype.property _)) HF.out HRF.out).mono (by rw [HV.out]; exact fun _ _ h => h))))))
    refine wpQuiet_nil ?_
    rintro _ ⟨y, rfl⟩
    have HBW := Lib.hid (HWP.out y)
    go_wp2
    go_ret2
    exact ⟨by rw [Q.out]; rfl, HBW.out⟩
  · have Q := Lib.hid (show solvP b xs r f = (0, 3) by rw [QP.out, if_neg hq])
    have HWP := Lib.hid (fun y : Past ((w.alloc (.cells #[.int .i64 b.first, .slice A n cap, .int .i64 b.rate] 32)).alloc (.cells #[.int .i64 r.rate, .int .i64 r.death] 36)) => hbw.trans (y.2.mono hbw.size))
    have hcB := Lib.hid (Blk.agg_past (cs := [.int .i64 b.first, .slice A n cap, .int .i64 b.rate]) HB.out 0 [.int .i64 b.first, .slice A n cap, .int .i64 b.rate] rfl)
    have hcC := Lib.hid (Blk.agg_past (cs := [.int .i64 r.rate, .int .i64 r.death]) HC.out 0 [.int .i64 r.rate, .int .i64 r.death] rfl)
    go_enter Try.func67, Try.ntmps67
    go_wp2
    refine wp_region_past (by kernel_rfl) (by kernel_rfl) ?_
    repeat (first | (go_big_quiet_want; (first | (first | (refine quiet_load_agg 32 _ rfl ⟨w.heap.size, 0, none⟩ rfl [.int .i64 b.first, .slice A n cap, .int .i64 b.rate] hcB.out _ Try.underlying32 rfl Bas.size ?_) | (refine quiet_load_agg 36 _ rfl ⟨w.heap.size + 1, 0, none⟩ rfl [.int .i64 r.rate, .int .i64 r.death] hcC.out _ Try.underlying36 rfl Scenario.size ?_))); go_simp; go_big_quiet_on) | go_big_quiet_step ((first | (go_at_call 143; exact past_same (spec_l21Fund_any f _)) | (go_at_call 142; exact past_call ((spec_l21Required_any b A n cap H m hcap xs r (inR f 0 1000000000000) _ (HBT.out.at_past _) HL.out hm (HX.out.past (Subtype.property _)) HF.out HRF.out).mono (by rw [HV.out]; exact fun _ _ h => h))))))
    refine wpQuiet_nil ?_
    rintro _ ⟨y, rfl⟩
    have HBW := Lib.hid (HWP.out y)
    go_wp2
    go_ret2
    exact ⟨by rw [Q.out]; rfl, HBW.out⟩

end Go.Proofs.Ythcnkcoplgdlkaa
