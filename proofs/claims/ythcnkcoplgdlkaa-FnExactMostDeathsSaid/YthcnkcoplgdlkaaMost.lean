/- The most deaths that a fund bears: the program's and the reference's contracts. -/
import Derived.Test.YthcnkcoplgdlkaaSolv
namespace Go.Proofs.Ythcnkcoplgdlkaa
open Go.RowKit Go.BigFrame

def mostDL (b : Bas) (xs : List Holding) (f : Int) : Nat → Int → Int → Int
  | 0, m, _ => m
  | k + 1, m, d => if (reqFor b xs ⟨0, d⟩ f).2 = 0 ∧ (reqFor b xs ⟨0, d⟩ f).1 ≤ f then mostDL b xs f k d (d + 100) else m
def mostP (b : Bas) (xs : List Holding) (f : Int) : Int × Int :=
  if (reqFor b xs ⟨0, 0⟩ f).2 = 0 then (if (reqFor b xs ⟨0, 0⟩ f).1 ≤ f then (mostDL b xs f 5 0 100, 0) else (0, 4)) else (0, (reqFor b xs ⟨0, 0⟩ f).2)
theorem most_bad {b : Bas} {xs : List Holding} {f V1 V2 : Int} (h : reqFor b xs ⟨0, 0⟩ f = (V1, V2)) (hc : ¬ V2 = 0) : mostP b xs f = (0, V2) := by unfold mostP; rw [h]; simp [hc]
theorem most_none {b : Bas} {xs : List Holding} {f V1 : Int} (h : reqFor b xs ⟨0, 0⟩ f = (V1, 0)) (hc : ¬ V1 ≤ f) : mostP b xs f = (0, 4) := by unfold mostP; rw [h]; simp [hc]
theorem most_some {b : Bas} {xs : List Holding} {f V1 : Int} (h : reqFor b xs ⟨0, 0⟩ f = (V1, 0)) (hc : V1 ≤ f) : mostP b xs f = (mostDL b xs f 5 0 100, 0) := by unfold mostP; rw [h]; simp [hc]
theorem mostDL_stop {b : Bas} {xs : List Holding} {f d V1 V2 m : Int} (k : Nat) (h : reqFor b xs ⟨0, d⟩ f = (V1, V2)) (hc : ¬ (V2 = 0 ∧ V1 ≤ f)) : mostDL b xs f (k + 1) m d = m := by unfold mostDL; rw [h]; exact if_neg hc
theorem mostDL_on {b : Bas} {xs : List Holding} {f d V1 m : Int} (k : Nat) (h : reqFor b xs ⟨0, d⟩ f = (V1, 0)) (hc : V1 ≤ f) : mostDL b xs f (k + 1) m d = mostDL b xs f k d (d + 100) := by
  conv => lhs; unfold mostDL
  rw [h]; exact if_pos ⟨rfl, hc⟩
theorem reqFor_code {b : Bas} {xs : List Holding} {r : Scenario} {f V1 V2 : Int} (h : reqFor b xs r f = (V1, V2)) : (0 ≤ V1 ∧ V1 ≤ 4000000000000000) ∧ (V2 = 0 ∨ V2 = 1 ∨ V2 = 2 ∨ V2 = 5) := by
  have h1 := reqIn_bound b xs r (inR f 0 1000000000000)
  unfold reqFor at h
  rw [h] at h1
  exact ⟨h1.1, h1.2.1⟩
theorem reqFor_true {b : Bas} {xs : List Holding} {r : Scenario} {f V1 : Int} (s : Scenario) (h : reqFor b xs r f = (V1, 0)) : reqIn b xs s true = reqFor b xs s f := by
  have h1 := (reqIn_bound b xs r (inR f 0 1000000000000)).2.2
  cases hi : inR f 0 1000000000000
  · unfold reqFor at h; rw [hi] at h h1; rw [h] at h1; exact absurd rfl (h1 rfl)
  · unfold reqFor; rw [hi]
theorem scen_fits {d : Int} (h : 0 ≤ d ∧ d ≤ 1000) : (⟨0, d⟩ : Scenario).fits := by
  simp [Scenario.fits, In64]; omega


set_option maxRecDepth 100000 in
set_option maxHeartbeats 6000000 in
theorem impl_MostDeaths_any (b : Bas) (A : Option Addr) (n cap : Nat) (H : Option Addr) (m hcap : Nat) (xs : List Holding) (f : Int) (w : World) (hB : BasT w A n cap b) (hl : xs.length = m) (hm : m ≤ 1048576) (hX : Rd w w.heap.size H 7 (holdingRows xs)) (hf : ∀ x ∈ xs, x.fits) (_hf : In64 f) :
    Calls Try.prog 72 #[.agg #[.int .i64 b.first, .slice A n cap, .int .i64 b.rate], .slice H m hcap, .int .i64 f] w fun e w' => e = .returned (.tuple #[.int .i64 (mostP b xs f).1, .int .i64 (mostP b xs f).2]) ∧ Below w.heap.size w w' := by
  have hbw : Below w.heap.size w (w.alloc (.cells #[.int .i64 b.first, .slice A n cap, .int .i64 b.rate] 32)) := (Below.refl _ w).alloc (Nat.le_refl _) _
  have HB := Lib.hid (Blk.new w 32 #[.int .i64 b.first, .slice A n cap, .int .i64 b.rate])
  have HBT := Lib.hid (hB.past hbw); clear hB
  have HX := Lib.hid (hX.past hbw); clear hX
  have HL := Lib.hid hl; clear hl
  have HF := Lib.hid hf; clear hf
  have HBW := Lib.hid hbw; clear hbw
  go_enter Try.func72, Try.ntmps72
  go_wp2
  go_loopw [8, 9] (fun u v wr => ∃ (k : Nat) (mo d : Int), u = .int .i64 mo ∧ v = .int .i64 d ∧ d + 100 * (k : Int) = 600 ∧ ((k = 6 ∧ mo = -1) ∨ (k ≤ 5 ∧ 0 ≤ mo ∧ mo ≤ 500 ∧ Hid (mostP b xs f = (mostDL b xs f k mo d, 0)))) ∧ Below (w.heap.size + 1) (w.alloc (.cells #[.int .i64 b.first, .slice A n cap, .int .i64 b.rate] 32)) wr) (fun _ v _ => (600 - intOf v).toNat)
  case atStart => exact ⟨6, -1, 0, rfl, rfl, by omega, .inl ⟨rfl, rfl⟩, (Below.refl _ _)⟩
  case round =>
    obtain ⟨k, mo, d, rfl, rfl, hd, hcase, hb0⟩ := hrel
    have hb : Below (w.alloc (.cells #[.int .i64 b.first, .slice A n cap, .int .i64 b.rate] 32)).heap.size (w.alloc (.cells #[.int .i64 b.first, .slice A n cap, .int .i64 b.rate] 32)) wr := by rw [World.size_alloc]; exact hb0
    have hbr : Below (w.alloc (.cells #[.int .i64 b.first, .slice A n cap, .int .i64 b.rate] 32)).heap.size (w.alloc (.cells #[.int .i64 b.first, .slice A n cap, .int .i64 b.rate] 32)) wr := hb
    have hbw0 := HBW.out.trans (hbr.mono HBW.out.size)
    have HBTr := Lib.hid (HBT.out.past hbr)
    have HXr := Lib.hid (HX.out.past hbr)
    have hcBr := Lib.hid (Blk.agg (cs := [.int .i64 b.first, .slice A n cap, .int .i64 b.rate]) (HB.out.below' hbr) 0 [.int .i64 b.first, .slice A n cap, .int .i64 b.rate] rfl)
    obtain ⟨V, hV⟩ : ∃ V, reqFor b xs ⟨0, d⟩ f = V := ⟨_, rfl⟩
    obtain ⟨V1, V2⟩ := V
    obtain ⟨⟨v1, v2⟩, hcode⟩ := reqFor_code hV
    rcases hcase with ⟨rfl, rfl⟩ | ⟨hk5, m0, m1, HQ⟩
    · have hd0 : d = 0 := by omega
      subst hd0
      have HSF := Lib.hid (scen_fits (d := 0) (by omega))
      by_cases hc : V2 = 0
      rotate_left
      · have Q := Lib.hid (most_bad hV hc)
        have HV := Lib.hid hV; clear hV
        have hz : (V2 == 0) = false := by simp [hc]
        have hz2 : (V2 != 0) = true := by simp [hc]
        clear hc hcode
        go_wp2_with (first | (refine wpList_load_agg rfl 32 _ rfl ⟨w.heap.size, 0, none⟩ rfl [.int .i64 b.first, .slice A n cap, .int .i64 b.rate] hcBr.out _ Try.underlying32 rfl Bas.size ?_) | (go_at_call 145; refine (impl_requiredFor_any b A n cap H m hcap xs ⟨0, 0⟩ f _ HBTr.out HL.out hm HXr.out HF.out (HSF.out)).mono ?_; rw [HV.out]; rintro e w2 ⟨rfl, hb2⟩))
        go_ret2
        exact ⟨by rw [Q.out]; rfl, hbw0.trans (hb2.mono hbw0.size)⟩
      subst hc
      by_cases hle : V1 ≤ f
      · have Q := Lib.hid (most_some hV hle)
        have HV := Lib.hid hV; clear hV
        go_wp2_with (first | (refine wpList_load_agg rfl 32 _ rfl ⟨w.heap.size, 0, none⟩ rfl [.int .i64 b.first, .slice A n cap, .int .i64 b.rate] hcBr.out _ Try.underlying32 rfl Bas.size ?_) | (go_at_call 145; refine (impl_requiredFor_any b A n cap H m hcap xs ⟨0, 0⟩ f _ HBTr.out HL.out hm HXr.out HF.out (HSF.out)).mono ?_; rw [HV.out]; rintro e w2 ⟨rfl, hb2⟩))
        go_round
        case rel => exact ⟨5, 0, 100, rfl, rfl, by omega, .inr ⟨by omega, by omega, by omega, Q⟩, hb0.trans (hb2.mono (by have := hb0.size; simpa using this))⟩
        case measure => simp [intOf]
      · have Q := Lib.hid (most_none hV hle)
        have HV := Lib.hid hV; clear hV
        go_wp2_with (first | (refine wpList_load_agg rfl 32 _ rfl ⟨w.heap.size, 0, none⟩ rfl [.int .i64 b.first, .slice A n cap, .int .i64 b.rate] hcBr.out _ Try.underlying32 rfl Bas.size ?_) | (go_at_call 145; refine (impl_requiredFor_any b A n cap H m hcap xs ⟨0, 0⟩ f _ HBTr.out HL.out hm HXr.out HF.out (HSF.out)).mono ?_; rw [HV.out]; rintro e w2 ⟨rfl, hb2⟩))
        go_ret2
        exact ⟨by rw [Q.out]; rfl, hbw0.trans (hb2.mono hbw0.size)⟩
    rcases k with _ | k
    · have Q := Lib.hid (show mostP b xs f = (mo, 0) from HQ.out)
      clear hV hcode v1 v2
      go_wp2
      go_ret2
      exact ⟨by rw [Q.out]; rfl, hbw0⟩
    have hdb : 100 ≤ d ∧ d ≤ 500 := by omega
    have hdz : (d == 0) = false := by simp; omega
    have HSF := Lib.hid (scen_fits (d := d) (by omega))
    by_cases hc : V2 = 0
    rotate_left
    · have Q := Lib.hid (show mostP b xs f = (mo, 0) by rw [HQ.out, mostDL_stop k hV (fun h => hc h.1)])
      have HV := Lib.hid hV; clear hV
      have hz : (V2 == 0) = false := by simp [hc]
      have hz2 : (V2 != 0) = true := by simp [hc]
      clear hc hcode
      go_wp2_with (first | (refine wpList_load_agg rfl 32 _ rfl ⟨w.heap.size, 0, none⟩ rfl [.int .i64 b.first, .slice A n cap, .int .i64 b.rate] hcBr.out _ Try.underlying32 rfl Bas.size ?_) | (go_at_call 145; refine (impl_requiredFor_any b A n cap H m hcap xs ⟨0, d⟩ f _ HBTr.out HL.out hm HXr.out HF.out (HSF.out)).mono ?_; rw [HV.out]; rintro e w2 ⟨rfl, hb2⟩))
      go_ret2
      exact ⟨by rw [Q.out]; rfl, hbw0.trans (hb2.mono hbw0.size)⟩
    subst hc
    by_cases hle : V1 ≤ f
    · have Q := Lib.hid (show mostP b xs f = (mostDL b xs f k d (d + 100), 0) by rw [HQ.out, mostDL_on k hV hle])
      have HV := Lib.hid hV; clear hV
      go_wp2_with (first | (refine wpList_load_agg rfl 32 _ rfl ⟨w.heap.size, 0, none⟩ rfl [.int .i64 b.first, .slice A n cap, .int .i64 b.rate] hcBr.out _ Try.underlying32 rfl Bas.size ?_) | (go_at_call 145; refine (impl_requiredFor_any b A n cap H m hcap xs ⟨0, d⟩ f _ HBTr.out HL.out hm HXr.out HF.out (HSF.out)).mono ?_; rw [HV.out]; rintro e w2 ⟨rfl, hb2⟩))
      go_round
      case rel => exact ⟨k, d, d + 100, rfl, by first | rfl | go_num, by omega, .inr ⟨by omega, by omega, by omega, Q⟩, hb0.trans (hb2.mono (by have := hb0.size; simpa using this))⟩
      case measure => simp [intOf]; omega
    · have Q := Lib.hid (show mostP b xs f = (mo, 0) by rw [HQ.out, mostDL_stop k hV (fun h => hle h.2)])
      have HV := Lib.hid hV; clear hV
      go_wp2_with (first | (refine wpList_load_agg rfl 32 _ rfl ⟨w.heap.size, 0, none⟩ rfl [.int .i64 b.first, .slice A n cap, .int .i64 b.rate] hcBr.out _ Try.underlying32 rfl Bas.size ?_) | (go_at_call 145; refine (impl_requiredFor_any b A n cap H m hcap xs ⟨0, d⟩ f _ HBTr.out HL.out hm HXr.out HF.out (HSF.out)).mono ?_; rw [HV.out]; rintro e w2 ⟨rfl, hb2⟩))
      go_ret2
      exact ⟨by rw [Q.out]; rfl, hbw0.trans (hb2.mono hbw0.size)⟩


set_option maxRecDepth 100000 in
set_option maxHeartbeats 6000000 in
theorem spec_MostDeaths_any (b : Bas) (A : Option Addr) (n cap : Nat) (H : Option Addr) (m hcap : Nat) (xs : List Holding) (f : Int) (w : World) (hB : BasT w A n cap b) (hl : xs.length = m) (hm : m ≤ 1048576) (hX : Rd w w.heap.size H 7 (holdingRows xs)) (hf : ∀ x ∈ xs, x.fits) (_hf : In64 f) :
    Calls Try.prog 71 #[.agg #[.int .i64 b.first, .slice A n cap, .int .i64 b.rate], .slice H m hcap, .int .i64 f] w fun e w' => e = .returned (.tuple #[.int .i64 (mostP b xs f).1, .int .i64 (mostP b xs f).2]) ∧ Below w.heap.size w w' := by
  have hbw : Below w.heap.size w (w.alloc (.cells #[.int .i64 b.first, .slice A n cap, .int .i64 b.rate] 32)) := (Below.refl _ w).alloc (Nat.le_refl _) _
  have HB := Lib.hid (Blk.new w 32 #[.int .i64 b.first, .slice A n cap, .int .i64 b.rate])
  have HBT := Lib.hid (hB.past hbw); clear hB
  have HX := Lib.hid (hX.past hbw); clear hX
  have HL := Lib.hid hl; clear hl
  have HF := Lib.hid hf; clear hf
  have HBW := Lib.hid hbw; clear hbw
  have hcB := Lib.hid (Blk.agg_past (cs := [.int .i64 b.first, .slice A n cap, .int .i64 b.rate]) HB.out 0 [.int .i64 b.first, .slice A n cap, .int .i64 b.rate] rfl)
  have HSF0 := Lib.hid (scen_fits (d := 0) (by omega))
  obtain ⟨V, hV⟩ : ∃ V, reqFor b xs ⟨0, 0⟩ f = V := ⟨_, rfl⟩
  obtain ⟨V1, V2⟩ := V
  obtain ⟨⟨v1, v2⟩, hcode⟩ := reqFor_code hV
  have HV := Lib.hid (show reqIn b xs ⟨0, 0⟩ (inR f 0 1000000000000) = (V1, V2) from hV)
  have HV' := Lib.hid hV
  by_cases hc : V2 = 0
  rotate_left
  · have Q := Lib.hid (most_bad hV hc)
    clear hV
    have hz : (V2 == 0) = false := by simp [hc]
    have hz2 : (V2 != 0) = true := by simp [hc]
    clear hc hcode
    go_enter Try.func71, Try.ntmps71
    go_wp2
    refine wp_region_past (by kernel_rfl) (by kernel_rfl) ?_
    repeat (first | (go_big_quiet_want; (first | (first | (refine quiet_load_agg 32 _ rfl ⟨w.heap.size, 0, none⟩ rfl [.int .i64 b.first, .slice A n cap, .int .i64 b.rate] hcB.out _ Try.underlying32 rfl Bas.size ?_))); go_simp; go_big_quiet_on) | go_big_quiet_step ((first | (go_at_call 143; exact past_same (spec_l21Fund_any f _)) | (go_at_call 142; exact past_call ((spec_l21Required_any b A n cap H m hcap xs ⟨0, 0⟩ (inR f 0 1000000000000) _ (HBT.out.at_past _) HL.out hm (HX.out.past (Subtype.property _)) HF.out HSF0.out).mono (by rw [HV.out]; exact fun _ _ h => h))))))
    refine wpQuiet_nil ?_
    rintro _ ⟨y, rfl⟩
    have hb1 : Below (w.alloc (.cells #[.int .i64 b.first, .slice A n cap, .int .i64 b.rate] 32)).heap.size (w.alloc (.cells #[.int .i64 b.first, .slice A n cap, .int .i64 b.rate] 32)) y.1 := y.2
    have hbw1 := HBW.out.trans (hb1.mono HBW.out.size)
    go_wp2
    go_ret2
    exact ⟨by rw [Q.out]; rfl, hbw1⟩
  subst hc
  by_cases hle : V1 ≤ f
  rotate_left
  · have Q := Lib.hid (most_none hV hle)
    clear hV
    go_enter Try.func71, Try.ntmps71
    go_wp2
    refine wp_region_past (by kernel_rfl) (by kernel_rfl) ?_
    repeat (first | (go_big_quiet_want; (first | (first | (refine quiet_load_agg 32 _ rfl ⟨w.heap.size, 0, none⟩ rfl [.int .i64 b.first, .slice A n cap, .int .i64 b.rate] hcB.out _ Try.underlying32 rfl Bas.size ?_))); go_simp; go_big_quiet_on) | go_big_quiet_step ((first | (go_at_call 143; exact past_same (spec_l21Fund_any f _)) | (go_at_call 142; exact past_call ((spec_l21Required_any b A n cap H m hcap xs ⟨0, 0⟩ (inR f 0 1000000000000) _ (HBT.out.at_past _) HL.out hm (HX.out.past (Subtype.property _)) HF.out HSF0.out).mono (by rw [HV.out]; exact fun _ _ h => h))))))
    refine wpQuiet_nil ?_
    rintro _ ⟨y, rfl⟩
    have hb1 : Below (w.alloc (.cells #[.int .i64 b.first, .slice A n cap, .int .i64 b.rate] 32)).heap.size (w.alloc (.cells #[.int .i64 b.first, .slice A n cap, .int .i64 b.rate] 32)) y.1 := y.2
    have hbw1 := HBW.out.trans (hb1.mono HBW.out.size)
    go_wp2
    go_ret2
    exact ⟨by rw [Q.out]; rfl, hbw1⟩
  have Q := Lib.hid (most_some hV hle)
  clear hV
  go_enter Try.func71, Try.ntmps71
  go_wp2
  refine wp_region_past (by kernel_rfl) (by kernel_rfl) ?_
  repeat (first | (go_big_quiet_want; (first | (first | (refine quiet_load_agg 32 _ rfl ⟨w.heap.size, 0, none⟩ rfl [.int .i64 b.first, .slice A n cap, .int .i64 b.rate] hcB.out _ Try.underlying32 rfl Bas.size ?_))); go_simp; go_big_quiet_on) | go_big_quiet_step ((first | (go_at_call 143; exact past_same (spec_l21Fund_any f _)) | (go_at_call 142; exact past_call ((spec_l21Required_any b A n cap H m hcap xs ⟨0, 0⟩ (inR f 0 1000000000000) _ (HBT.out.at_past _) HL.out hm (HX.out.past (Subtype.property _)) HF.out HSF0.out).mono (by rw [HV.out]; exact fun _ _ h => h))))))
  refine wpQuiet_nil ?_
  rintro _ ⟨y, rfl⟩
  have hb1 : Below (w.alloc (.cells #[.int .i64 b.first, .slice A n cap, .int .i64 b.rate] 32)).heap.size (w.alloc (.cells #[.int .i64 b.first, .slice A n cap, .int .i64 b.rate] 32)) y.1 := y.2
  have hbw1 := HBW.out.trans (hb1.mono HBW.out.size)
  go_wp2
  have HBT1 := Lib.hid (HBT.out.past hb1)
  have HX1 := Lib.hid (HX.out.past hb1)
  have HB1 := Lib.hid (HB.out.below' hb1)
  have HBW1 := Lib.hid hbw1
  clear hb1 hbw1
  obtain ⟨y, hy⟩ := y
  simp only at HBT1 HX1 HB1 HBW1 ⊢
  go_loopw [10, 11] (fun u v wr => ∃ (k : Nat) (mo d : Int), u = .int .i64 mo ∧ v = .int .i64 d ∧ d + 100 * (k : Int) = 600 ∧ k ≤ 5 ∧ 0 ≤ mo ∧ mo ≤ 500 ∧ Hid (mostP b xs f = (mostDL b xs f k mo d, 0)) ∧ Below y.heap.size y wr) (fun _ v _ => (600 - intOf v).toNat)
  case atStart => exact ⟨5, 0, 100, rfl, rfl, by omega, by omega, by omega, by omega, Q, (Below.refl _ _)⟩
  case round =>
    obtain ⟨k, mo, d, rfl, rfl, hd, hk5, m0, m1, HQ, hbr⟩ := hrel
    have hbw0 := HBW1.out.trans (hbr.mono HBW1.out.size)
    have HBTr := Lib.hid (HBT1.out.past hbr)
    have HXr := Lib.hid (HX1.out.past hbr)
    have hcBr := Lib.hid (Blk.agg (cs := [.int .i64 b.first, .slice A n cap, .int .i64 b.rate]) (HB1.out.below' hbr) 0 [.int .i64 b.first, .slice A n cap, .int .i64 b.rate] rfl)
    rcases k with _ | k
    · have Q := Lib.hid (show mostP b xs f = (mo, 0) from HQ.out)
      go_wp2
      go_ret2
      exact ⟨by rw [Q.out]; rfl, hbw0⟩
    obtain ⟨U, hU⟩ : ∃ U, reqFor b xs ⟨0, d⟩ f = U := ⟨_, rfl⟩
    obtain ⟨U1, U2⟩ := U
    obtain ⟨⟨u1, u2⟩, hcode2⟩ := reqFor_code hU
    have HU := Lib.hid (show reqIn b xs ⟨0, d⟩ true = (U1, U2) by rw [reqFor_true ⟨0, d⟩ HV'.out, hU])
    have hdb : 100 ≤ d ∧ d ≤ 500 := by omega
    have HSF := Lib.hid (scen_fits (d := d) (by omega))
    by_cases hc : U2 = 0
    rotate_left
    · have Q := Lib.hid (show mostP b xs f = (mo, 0) by rw [HQ.out, mostDL_stop k hU (fun h => hc h.1)])
      clear hU
      have hz : (U2 == 0) = false := by simp [hc]
      have hz2 : (U2 != 0) = true := by simp [hc]
      clear hc hcode2
      go_wp2_with (first | (refine wpList_load_agg rfl 32 _ rfl ⟨w.heap.size, 0, none⟩ rfl [.int .i64 b.first, .slice A n cap, .int .i64 b.rate] hcBr.out _ Try.underlying32 rfl Bas.size ?_) | (go_at_call 142; refine (spec_l21Required_any b A n cap H m hcap xs ⟨0, d⟩ true _ HBTr.out HL.out hm HXr.out HF.out (HSF.out)).mono ?_; rw [HU.out]; rintro e w2 ⟨rfl, hb2⟩))
      go_ret2
      exact ⟨by rw [Q.out]; rfl, hbw0.trans (hb2.mono hbw0.size)⟩
    subst hc
    by_cases hle2 : U1 ≤ f
    · have Q := Lib.hid (show mostP b xs f = (mostDL b xs f k d (d + 100), 0) by rw [HQ.out, mostDL_on k hU hle2])
      clear hU
      go_wp2_with (first | (refine wpList_load_agg rfl 32 _ rfl ⟨w.heap.size, 0, none⟩ rfl [.int .i64 b.first, .slice A n cap, .int .i64 b.rate] hcBr.out _ Try.underlying32 rfl Bas.size ?_) | (go_at_call 142; refine (spec_l21Required_any b A n cap H m hcap xs ⟨0, d⟩ true _ HBTr.out HL.out hm HXr.out HF.out (HSF.out)).mono ?_; rw [HU.out]; rintro e w2 ⟨rfl, hb2⟩))
      go_round
      case rel => exact ⟨k, d, d + 100, rfl, by first | rfl | go_num, by omega, by omega, by omega, by omega, Q, hbr.trans (hb2.mono hbr.size)⟩
      case measure => simp [intOf]; omega
    · have Q := Lib.hid (show mostP b xs f = (mo, 0) by rw [HQ.out, mostDL_stop k hU (fun h => hle2 h.2)])
      clear hU
      go_wp2_with (first | (refine wpList_load_agg rfl 32 _ rfl ⟨w.heap.size, 0, none⟩ rfl [.int .i64 b.first, .slice A n cap, .int .i64 b.rate] hcBr.out _ Try.underlying32 rfl Bas.size ?_) | (go_at_call 142; refine (spec_l21Required_any b A n cap H m hcap xs ⟨0, d⟩ true _ HBTr.out HL.out hm HXr.out HF.out (HSF.out)).mono ?_; rw [HU.out]; rintro e w2 ⟨rfl, hb2⟩))
      go_ret2
      exact ⟨by rw [Q.out]; rfl, hbw0.trans (hb2.mono hbw0.size)⟩
end Go.Proofs.Ythcnkcoplgdlkaa
