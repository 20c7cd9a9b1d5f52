/- Parts of a proof, one after another: Sick5, SickD2. No condition. -/
import Derived.Test.YtkdfdbcpbgganaaGreatDoorK9
import Derived.Test.YtkdfdbcpbgganaaGreatDoorK10
import Derived.Deep.RegionLaw
/- Sickness benefits: codes, values, premiums: the reference. -/
section
namespace Go.Proofs.YtkdfdbcpbgganaaGreatDoor
open Go.RowKit Go.BigFrame

/-- the two boxes of the tables -/
def Ben.tcs (b : Ben) (A : Option Addr) (n c : Nat) : List Value := [.int .i64 b.f, .slice A n c]
def Ben.scs (b : Ben) (B : Option Addr) (m d : Nat) : List Value := [.int .i64 b.g, .slice B m d]
theorem two_boxes (w : World) (X Y : List Value) (tx ty : TypeId) : Below w.heap.size w ((w.alloc (.cells X.toArray tx)).alloc (.cells Y.toArray ty)) ∧ Blk ((w.alloc (.cells X.toArray tx)).alloc (.cells Y.toArray ty)) w.heap.size tx X.toArray ∧ Blk ((w.alloc (.cells X.toArray tx)).alloc (.cells Y.toArray ty)) (w.heap.size + 1) ty Y.toArray ∧ ((w.alloc (.cells X.toArray tx)).alloc (.cells Y.toArray ty)).heap.size = w.heap.size + 2 := by
  refine ⟨((Below.refl _ w).alloc (Nat.le_refl _) _).alloc (by simp) _, (Blk.new w tx X.toArray).alloc _, ?_, by simp⟩
  have := Blk.new (w.alloc (.cells X.toArray tx)) ty Y.toArray
  rwa [World.size_alloc] at this

set_option maxHeartbeats 4000000 in
theorem spec_l09Code_any (b : Ben) (A : Option Addr) (n c : Nat) (B : Option Addr) (m d : Nat) (w : World) (hT : LiesT w A n b.xs) (hc : n ≤ c) (hf : In64 b.f) (hS : LiesT w B m b.ws) :
    Calls Tryz.prog 35 #[.agg #[.int .i64 b.f, .slice A n c], .agg #[.int .i64 b.g, .slice B m d], .int .i64 b.rate, .int .i64 b.age, .int .i64 b.n, .int .i64 b.pay] w fun e w' => e = .returned (.int .i64 b.code) ∧ Below w.heap.size w w' := by
  obtain ⟨hbw, hX, hY, hz⟩ := two_boxes w [.int .i64 b.f, .slice A n c] [.int .i64 b.g, .slice B m d] 26 28
  have HX := Lib.hid hX; have HY := Lib.hid hY
  have HT := Lib.hid (hT.past hbw); clear hT
  have HS := Lib.hid (hS.past hbw); clear hS
  clear hX hY
  go_enter Tryz.func35, Tryz.ntmps35
  go_upto_region 1 with (fail)
  generalize (w.alloc _).alloc _ = W at hbw HX HY HT HS hz ⊢
  have hcY := Lib.hid (Blk.agg (cs := [.int .i64 b.g, .slice B m d]) HY.out 0 [.int .i64 b.g, .slice B m d] rfl)
  go_wp2_with (refine wpList_load_agg rfl 28 _ rfl ⟨w.heap.size + 1, 0, none⟩ rfl [.int .i64 b.g, .slice B m d] hcY.out _ Tryz.underlying28 rfl SickT.size ?_)
  refine (spec_IsSickTable_any b.g B m d b.ws _ HS.out).mono ?_
  rintro e w1 ⟨rfl, hb1⟩
  have hbw1 := hbw.trans (hb1.mono hbw.size)
  have HX1 := Lib.hid (HX.out.below' hb1)
  have HT1 := Lib.hid (HT.out.past hb1)
  clear HX HY HT HS hcY
  cases hs : sickB b.g b.ws
  · have Q := Lib.hid (show b.code = 1 by unfold Ben.code; rw [hs]; rfl)
    go_wp2
    go_ret
    exact ⟨by rw [Q.out]; rfl, hbw1⟩
  have hcX := Lib.hid (Blk.agg_past (cs := [.int .i64 b.f, .slice A n c]) HX1.out 0 [.int .i64 b.f, .slice A n c] rfl)
  cases h1 : inR b.n 1 60
  · have Q := Lib.hid (show b.code = code6 b.f b.xs b.rate b.age false b.n by unfold Ben.code Ben.in_; rw [hs, h1]; rfl)
    have P1 := Lib.hid (fun y : World => (show Calls Tryz.prog 72 #[.int .i64 b.n, .int .i64 1, .int .i64 60] y (fun e w' => e = .returned (.bool false) ∧ y = w') from by have h := spec_l01In_any b.n 1 60 y; rwa [h1] at h))
    go_wp2
    refine wp_region_past (by kernel_rfl) (by kernel_rfl) ?_
    repeat (first | (go_big_quiet_want; (first | (refine quiet_load_agg 26 _ rfl ⟨w.heap.size, 0, none⟩ rfl [.int .i64 b.f, .slice A n c] hcX.out _ Tryz.underlying26 rfl Tab.size ?_)); go_simp; go_big_quiet_on) | go_big_quiet_step ((first | (go_at_call 72; exact past_same (P1.out _)) | (go_at_call 71; exact past_call (spec_l06Code_any b.f A n c b.xs b.rate b.age false b.n _ (HT1.out.at_past _) hc hf)))))
    refine wpQuiet_nil ?_
    rintro _ ⟨y, rfl⟩
    go_wp2
    go_ret
    exact ⟨by rw [Q.out]; rfl, hbw1.trans (y.2.mono hbw1.size)⟩
  cases h2 : inR b.pay 1 100000
  · have Q := Lib.hid (show b.code = code6 b.f b.xs b.rate b.age false b.n by unfold Ben.code Ben.in_; rw [hs, h1, h2]; rfl)
    have P1 := Lib.hid (fun y : World => (show Calls Tryz.prog 72 #[.int .i64 b.n, .int .i64 1, .int .i64 60] y (fun e w' => e = .returned (.bool true) ∧ y = w') from by have h := spec_l01In_any b.n 1 60 y; rwa [h1] at h))
    have P2 := Lib.hid (fun y : World => (show Calls Tryz.prog 72 #[.int .i64 b.pay, .int .i64 1, .int .i64 100000] y (fun e w' => e = .returned (.bool false) ∧ y = w') from by have h := spec_l01In_any b.pay 1 100000 y; rwa [h2] at h))
    go_wp2
    refine wp_region_past (by kernel_rfl) (by kernel_rfl) ?_
    repeat (first | (go_big_quiet_want; (first | (refine quiet_load_agg 26 _ rfl ⟨w.heap.size, 0, none⟩ rfl [.int .i64 b.f, .slice A n c] hcX.out _ Tryz.underlying26 rfl Tab.size ?_)); go_simp; go_big_quiet_on) | go_big_quiet_step ((first | (go_at_call 72; first | with_reducible exact past_same (P1.out _) | with_reducible exact past_same (P2.out _)) | (go_at_call 71; exact past_call (spec_l06Code_any b.f A n c b.xs b.rate b.age false b.n _ (HT1.out.at_past _) hc hf)))))
    refine wpQuiet_nil ?_
    rintro _ ⟨y, rfl⟩
    go_wp2
    go_ret
    exact ⟨by rw [Q.out]; rfl, hbw1.trans (y.2.mono hbw1.size)⟩
  · have Q := Lib.hid (show b.code = code6 b.f b.xs b.rate b.age true b.n by unfold Ben.code Ben.in_; rw [hs, h1, h2]; rfl)
    have P1 := Lib.hid (fun y : World => (show Calls Tryz.prog 72 #[.int .i64 b.n, .int .i64 1, .int .i64 60] y (fun e w' => e = .returned (.bool true) ∧ y = w') from by have h := spec_l01In_any b.n 1 60 y; rwa [h1] at h))
    have P2 := Lib.hid (fun y : World => (show Calls Tryz.prog 72 #[.int .i64 b.pay, .int .i64 1, .int .i64 100000] y (fun e w' => e = .returned (.bool true) ∧ y = w') from by have h := spec_l01In_any b.pay 1 100000 y; rwa [h2] at h))
    go_wp2
    refine wp_region_past (by kernel_rfl) (by kernel_rfl) ?_
    repeat (first | (go_big_quiet_want; (first | (refine quiet_load_agg 26 _ rfl ⟨w.heap.size, 0, none⟩ rfl [.int .i64 b.f, .slice A n c] hcX.out _ Tryz.underlying26 rfl Tab.size ?_)); go_simp; go_big_quiet_on) | go_big_quiet_step ((first | (go_at_call 72; first | with_reducible exact past_same (P1.out _) | with_reducible exact past_same (P2.out _)) | (go_at_call 71; exact past_call (spec_l06Code_any b.f A n c b.xs b.rate b.age true b.n _ (HT1.out.at_past _) hc hf)))))
    refine wpQuiet_nil ?_
    rintro _ ⟨y, rfl⟩
    go_wp2
    go_ret
    exact ⟨by rw [Q.out]; rfl, hbw1.trans (y.2.mono hbw1.size)⟩

set_option maxHeartbeats 8000000 in
theorem spec_l09Value_any (b : Ben) (A : Option Addr) (n c : Nat) (B : Option Addr) (m d : Nat) (w : World) (hT : LiesT w A n b.xs) (hS : LiesT w B m b.ws) (hb : BenOk b) :
    Calls Tryz.prog 36 #[.agg #[.int .i64 b.f, .slice A n c], .agg #[.int .i64 b.g, .slice B m d], .int .i64 b.rate, .int .i64 b.age, .int .i64 b.n, .int .i64 b.pay] w fun e w' => e = .returned (.int .i64 b.val) ∧ Below w.heap.size w w' := by
  obtain ⟨hbw, hX, hY, hz⟩ := two_boxes w [.int .i64 b.f, .slice A n c] [.int .i64 b.g, .slice B m d] 26 28
  have HX := Lib.hid hX; have HY := Lib.hid hY
  have HT := Lib.hid (hT.past hbw); clear hT
  have HS := Lib.hid (hS.past hbw); clear hS
  clear hX hY
  have HB := Lib.hid hb; clear hb
  obtain ⟨q, hq⟩ : ∃ q : Nat, b.n = (q : Int) := Int.eq_ofNat_of_zero_le (by have := HB.out.n0; omega)
  have hq60 : q ≤ 60 := by have := HB.out.n1; omega
  have HQ := Lib.hid hq
  have HV := Lib.hid (show b.val = sumF b.term 0 q by unfold Ben.val; rw [hq]; rfl)
  have a0 := HB.out.age0; have a1 := HB.out.end1; have n0 := HB.out.n0; have f0 := HB.out.tab.first0; have f1 := HB.out.tab.first1
  rw [hq] at a1 n0
  clear hq
  go_enter Tryz.func36, Tryz.ntmps36
  go_wp2_with fail
  generalize (w.alloc _).alloc _ = W at hbw HX HY HT HS hz ⊢
  rw [HQ.out]
  have hW : w.heap.size + 1 < W.heap.size := by omega
  go_loopw [13, 14] (fun o i wr => ∃ k : Nat, k ≤ q ∧ i = .int .i64 k ∧ o = .int .i64 (sumF b.term 0 k) ∧ Hid (Below W.heap.size W wr)) (fun _ i _ => q - (intOf i).toNat)
  case atStart => exact ⟨0, by omega, rfl, rfl, Lib.hid (Below.refl _ _)⟩
  case round =>
    obtain ⟨k, hk, rfl, rfl, HR⟩ := hrel
    have HXr := Lib.hid (HX.out.below' HR.out)
    have HYr := Lib.hid (HY.out.below' HR.out)
    have HTr := Lib.hid (HT.out.past HR.out)
    have HSr := Lib.hid (HS.out.past HR.out)
    by_cases hlt : k < q
    · have hki : (k : Int) < (q : Int) := by omega
      have hcX := Lib.hid (Blk.agg_past (cs := [.int .i64 b.f, .slice A n c]) HXr.out 0 [.int .i64 b.f, .slice A n c] rfl)
      have hcY := Lib.hid (Blk.agg_past (cs := [.int .i64 b.g, .slice B m d]) HYr.out 0 [.int .i64 b.g, .slice B m d] rfl)
      have H1 := Lib.hid (fun y : Past wr => (show Calls Tryz.prog 73 #[.agg #[.int .i64 b.g, .slice B m d], .int .i64 (b.age + (k : Int))] y.1 (fun e w' => e = .returned (.int .i64 (b.week k)) ∧ Below y.1.heap.size y.1 w') from spec_l09Weeks_any b.g B m d b.ws (b.age + (k : Int)) y.1 (HSr.out.at_past y) ⟨HB.out.sick.first0, HB.out.sick.first1⟩ ⟨by omega, by omega⟩))
      have H2 := Lib.hid (fun y : Past wr => (show Calls Tryz.prog 39 #[.agg #[.int .i64 b.f, .slice A n c], .int .i64 b.rate, .int .i64 (b.age + (k : Int))] y.1 (fun e w' => e = .returned (.int .i64 (b.d k)) ∧ Below y.1.heap.size y.1 w') from by
        have h := spec_l05D_any b.f A n c b.xs b.rate (b.age + (k : Int)) y.1 (HTr.out.at_past y) HB.out.tab ⟨HB.out.rate0, HB.out.rate1⟩ ⟨by omega, by omega⟩
        rwa [show (b.age + (k : Int) - b.f).toNat = b.ix + k by unfold Ben.ix; omega] at h))
      have H3 := Lib.hid (fun y : Past wr => (show Calls Tryz.prog 39 #[.agg #[.int .i64 b.f, .slice A n c], .int .i64 b.rate, .int .i64 b.age] y.1 (fun e w' => e = .returned (.int .i64 (b.d 0)) ∧ Below y.1.heap.size y.1 w') from by
        have h := spec_l05D_any b.f A n c b.xs b.rate b.age y.1 (HTr.out.at_past y) HB.out.tab ⟨HB.out.rate0, HB.out.rate1⟩ ⟨by omega, by omega⟩
        exact h))
      obtain ⟨p0, p1⟩ := ben_pay HB.out k
      obtain ⟨d1, d2, d3⟩ := ben_d HB.out k
      have d4 := HB.out.d0
      have H4 := Lib.hid (fun y : World => spec_l05Up_any (b.pay * b.week k) (b.d k) (1000 * b.d 0) y ⟨p0, by omega⟩ ⟨d1, by omega⟩ ⟨by omega, by omega⟩ (by have := ben_quo HB.out k; omega))
      obtain ⟨s0, s1⟩ := ben_part HB.out k (by omega)
      obtain ⟨t0, t1⟩ := ben_term HB.out k
      have HN := Lib.hid (show sumF b.term 0 (k + 1) = sumF b.term 0 k + b.term k by rw [sumF_snoc, Nat.zero_add])
      have HTM := Lib.hid (show upP (b.pay * b.week k) (b.d k) (1000 * b.d 0) = b.term k from rfl)
      rw [HTM.out] at H4
      generalize b.week k = wk at H1 H4 p0 p1
      generalize b.d k = dk at H2 H4 d1 d2
      generalize b.d 0 = dz at H3 H4 d2 d3 d4
      generalize b.term k = tk at H4 HN t0 t1
      generalize sumF b.term 0 k = sk at HN s0 s1 ⊢
      change Hid _ at H1; change Hid _ at H2; change Hid _ at H3; change Hid _ at H4; change Hid _ at HN
      clear HTM
      go_wp2
      refine wp_region_past (by kernel_rfl) (by kernel_rfl) ?_
      repeat (first | (go_big_quiet_want; (first | (refine quiet_load_agg 26 _ rfl ⟨w.heap.size, 0, none⟩ rfl [.int .i64 b.f, .slice A n c] hcX.out _ Tryz.underlying26 rfl Tab.size ?_) | (refine quiet_load_agg 28 _ rfl ⟨w.heap.size + 1, 0, none⟩ rfl [.int .i64 b.g, .slice B m d] hcY.out _ Tryz.underlying28 rfl SickT.size ?_)); go_simp; go_big_quiet_on) | go_big_quiet_step ((first | (go_at_call 73; exact past_call (H1.out _)) | (go_at_call 39; first | with_reducible exact past_call (H2.out _) | with_reducible exact past_call (H3.out _)) | (go_at_call 38; exact past_same (H4.out _)))))
      refine wpQuiet_nil ?_
      rintro _ ⟨y, rfl⟩
      have HR2 := Lib.hid (HR.out.trans (y.2.mono HR.out.size))
      go_wp2
      go_roundw
      case rel => exact ⟨k + 1, by omega, by go_num, by rw [HN.out], HR2⟩
      case measure => simp [intOf]; omega
    · have hkq : k = q := by omega
      subst hkq
      go_wp2
      go_ret
      exact ⟨by rw [HV.out]; rfl, hbw.trans (HR.out.mono hbw.size)⟩

set_option maxHeartbeats 4000000 in
theorem spec_SickValue_any (b : Ben) (A : Option Addr) (n c : Nat) (B : Option Addr) (m d : Nat) (w : World) (hT : LiesT w A n b.xs) (hc : n ≤ c) (hf : In64 b.f) (hS : LiesT w B m b.ws) :
    Calls Tryz.prog 8 #[.agg #[.int .i64 b.f, .slice A n c], .agg #[.int .i64 b.g, .slice B m d], .int .i64 b.rate, .int .i64 b.age, .int .i64 b.n, .int .i64 b.pay] w fun e w' => e = .returned (.tuple #[.int .i64 b.v, .int .i64 b.code]) ∧ Below w.heap.size w w' := by
  obtain ⟨hbw, hX, hY, hz⟩ := two_boxes w [.int .i64 b.f, .slice A n c] [.int .i64 b.g, .slice B m d] 26 28
  have HX := Lib.hid hX; have HY := Lib.hid hY
  have HT := Lib.hid (hT.past hbw); clear hT
  have HS := Lib.hid (hS.past hbw); clear hS
  clear hX hY
  go_enter Tryz.func8, Tryz.ntmps8
  go_upto_region 1 with (fail)
  generalize (w.alloc _).alloc _ = W at hbw HX HY HT HS hz ⊢
  have hcX := Lib.hid (Blk.agg (cs := [.int .i64 b.f, .slice A n c]) HX.out 0 [.int .i64 b.f, .slice A n c] rfl)
  have hcY := Lib.hid (Blk.agg (cs := [.int .i64 b.g, .slice B m d]) HY.out 0 [.int .i64 b.g, .slice B m d] rfl)
  go_wp2_with (first | (refine wpList_load_agg rfl 28 _ rfl ⟨w.heap.size + 1, 0, none⟩ rfl [.int .i64 b.g, .slice B m d] hcY.out _ Tryz.underlying28 rfl SickT.size ?_) | (refine wpList_load_agg rfl 26 _ rfl ⟨w.heap.size, 0, none⟩ rfl [.int .i64 b.f, .slice A n c] hcX.out _ Tryz.underlying26 rfl Tab.size ?_))
  refine (spec_l09Code_any b A n c B m d _ HT.out hc hf HS.out).mono ?_
  rintro e w1 ⟨rfl, hb1⟩
  have hbw1 := hbw.trans (hb1.mono hbw.size)
  have HX1 := Lib.hid (HX.out.below' hb1)
  have HY1 := Lib.hid (HY.out.below' hb1)
  have HT1 := Lib.hid (HT.out.past hb1)
  have HS1 := Lib.hid (HS.out.past hb1)
  clear HX HY HT HS hcX hcY
  by_cases h0 : b.code = 0
  rotate_left
  · have QV := Lib.hid (show b.v = 0 from if_neg h0)
    obtain ⟨z, hzz⟩ : ∃ z, b.code = z := ⟨_, rfl⟩
    have HZZ := Lib.hid hzz
    rw [hzz] at h0 ⊢
    clear hzz
    go_wp2
    go_ret2
    exact ⟨by rw [QV.out, HZZ.out]; rfl, hbw1⟩
  · have QV := Lib.hid (show b.v = b.val from if_pos h0)
    have HC0 := Lib.hid h0
    have HOK := Lib.hid (ben_ok h0)
    rw [h0]
    clear h0
    have hcX := Lib.hid (Blk.agg (cs := [.int .i64 b.f, .slice A n c]) HX1.out 0 [.int .i64 b.f, .slice A n c] rfl)
    have hcY := Lib.hid (Blk.agg (cs := [.int .i64 b.g, .slice B m d]) HY1.out 0 [.int .i64 b.g, .slice B m d] rfl)
    go_wp2_with (first | (refine wpList_load_agg rfl 28 _ rfl ⟨w.heap.size + 1, 0, none⟩ rfl [.int .i64 b.g, .slice B m d] hcY.out _ Tryz.underlying28 rfl SickT.size ?_) | (refine wpList_load_agg rfl 26 _ rfl ⟨w.heap.size, 0, none⟩ rfl [.int .i64 b.f, .slice A n c] hcX.out _ Tryz.underlying26 rfl Tab.size ?_))
    refine (spec_l09Value_any b A n c B m d _ HT1.out HS1.out HOK.out).mono ?_
    rintro e w2 ⟨rfl, hb2⟩
    go_wp2
    go_ret2
    exact ⟨by rw [QV.out, HC0.out]; rfl, hbw1.trans (hb2.mono hbw1.size)⟩

set_option maxHeartbeats 4000000 in
theorem spec_SickPremium_any (b : Ben) (A : Option Addr) (n c : Nat) (B : Option Addr) (m d : Nat) (w : World) (hT : LiesT w A n b.xs) (hc : n ≤ c) (hf : In64 b.f) (hS : LiesT w B m b.ws) :
    Calls Tryz.prog 10 #[.agg #[.int .i64 b.f, .slice A n c], .agg #[.int .i64 b.g, .slice B m d], .int .i64 b.rate, .int .i64 b.age, .int .i64 b.n, .int .i64 b.pay] w fun e w' => e = .returned (.tuple #[.int .i64 b.p, .int .i64 b.code]) ∧ Below w.heap.size w w' := by
  obtain ⟨hbw, hX, hY, hz⟩ := two_boxes w [.int .i64 b.f, .slice A n c] [.int .i64 b.g, .slice B m d] 26 28
  have HX := Lib.hid hX; have HY := Lib.hid hY
  have HT := Lib.hid (hT.past hbw); clear hT
  have HS := Lib.hid (hS.past hbw); clear hS
  clear hX hY
  go_enter Tryz.func10, Tryz.ntmps10
  go_upto_region 1 with (fail)
  generalize (w.alloc _).alloc _ = W at hbw HX HY HT HS hz ⊢
  have hcX := Lib.hid (Blk.agg (cs := [.int .i64 b.f, .slice A n c]) HX.out 0 [.int .i64 b.f, .slice A n c] rfl)
  have hcY := Lib.hid (Blk.agg (cs := [.int .i64 b.g, .slice B m d]) HY.out 0 [.int .i64 b.g, .slice B m d] rfl)
  go_wp2_with (first | (refine wpList_load_agg rfl 28 _ rfl ⟨w.heap.size + 1, 0, none⟩ rfl [.int .i64 b.g, .slice B m d] hcY.out _ Tryz.underlying28 rfl SickT.size ?_) | (refine wpList_load_agg rfl 26 _ rfl ⟨w.heap.size, 0, none⟩ rfl [.int .i64 b.f, .slice A n c] hcX.out _ Tryz.underlying26 rfl Tab.size ?_))
  refine (spec_l09Code_any b A n c B m d _ HT.out hc hf HS.out).mono ?_
  rintro e w1 ⟨rfl, hb1⟩
  have hbw1 := hbw.trans (hb1.mono hbw.size)
  have HX1 := Lib.hid (HX.out.below' hb1)
  have HY1 := Lib.hid (HY.out.below' hb1)
  have HT1 := Lib.hid (HT.out.past hb1)
  have HS1 := Lib.hid (HS.out.past hb1)
  clear HX HY HT HS hcX hcY
  by_cases h0 : b.code = 0
  rotate_left
  · have QV := Lib.hid (show b.p = 0 from if_neg h0)
    obtain ⟨z, hzz⟩ : ∃ z, b.code = z := ⟨_, rfl⟩
    have HZZ := Lib.hid hzz
    rw [hzz] at h0 ⊢
    clear hzz
    go_wp2
    go_ret2
    exact ⟨by rw [QV.out, HZZ.out]; rfl, hbw1⟩
  · have QV := Lib.hid (show b.p = b.prem from if_pos h0)
    have HC0 := Lib.hid h0
    have HOK := Lib.hid (ben_ok h0)
    rw [h0]
    clear h0
    have hcX := Lib.hid (Blk.agg (cs := [.int .i64 b.f, .slice A n c]) HX1.out 0 [.int .i64 b.f, .slice A n c] rfl)
    have hcY := Lib.hid (Blk.agg (cs := [.int .i64 b.g, .slice B m d]) HY1.out 0 [.int .i64 b.g, .slice B m d] rfl)
    go_wp2_with (first | (refine wpList_load_agg rfl 28 _ rfl ⟨w.heap.size + 1, 0, none⟩ rfl [.int .i64 b.g, .slice B m d] hcY.out _ Tryz.underlying28 rfl SickT.size ?_) | (refine wpList_load_agg rfl 26 _ rfl ⟨w.heap.size, 0, none⟩ rfl [.int .i64 b.f, .slice A n c] hcX.out _ Tryz.underlying26 rfl Tab.size ?_))
    refine (spec_l09Value_any b A n c B m d _ HT1.out HS1.out HOK.out).mono ?_
    rintro e w2 ⟨rfl, hb2⟩
    have hbw2 := hbw1.trans (hb2.mono hbw1.size)
    have HX2 := Lib.hid (HX1.out.below' hb2)
    have HT2 := Lib.hid (HT1.out.past hb2)
    clear HX1 HY1 HS1 hcX hcY
    have hcX := Lib.hid (Blk.agg_past (cs := [.int .i64 b.f, .slice A n c]) HX2.out 0 [.int .i64 b.f, .slice A n c] rfl)
    have a0 := HOK.out.age0; have a1 := HOK.out.end1; have n0 := HOK.out.n0; have n1 := HOK.out.n1; have f0 := HOK.out.tab.first0
    have H1 := Lib.hid (fun y : Past w2 => (show Calls Tryz.prog 39 #[.agg #[.int .i64 b.f, .slice A n c], .int .i64 b.rate, .int .i64 b.age] y.1 (fun e w' => e = .returned (.int .i64 (b.d 0)) ∧ Below y.1.heap.size y.1 w') from by
      have h := spec_l05D_any b.f A n c b.xs b.rate b.age y.1 (HT2.out.at_past y) HOK.out.tab ⟨HOK.out.rate0, HOK.out.rate1⟩ ⟨by omega, by omega⟩
      exact h))
    have H2 := Lib.hid (fun y : Past w2 => (show Calls Tryz.prog 40 #[.agg #[.int .i64 b.f, .slice A n c], .int .i64 b.rate, .int .i64 b.age] y.1 (fun e w' => e = .returned (.int .i64 (nC b.xs b.rate b.ix)) ∧ Below y.1.heap.size y.1 w') from by
      have h := spec_l05N_any b.f A n c b.xs b.rate b.age y.1 (HT2.out.at_past y) HOK.out.tab ⟨HOK.out.rate0, HOK.out.rate1⟩ ⟨by omega, by omega⟩
      exact h))
    have H3 := Lib.hid (fun y : Past w2 => (show Calls Tryz.prog 40 #[.agg #[.int .i64 b.f, .slice A n c], .int .i64 b.rate, .int .i64 (b.age + b.n)] y.1 (fun e w' => e = .returned (.int .i64 (nC b.xs b.rate (b.ix + b.n.toNat))) ∧ Below y.1.heap.size y.1 w') from by
      have h := spec_l05N_any b.f A n c b.xs b.rate (b.age + b.n) y.1 (HT2.out.at_past y) HOK.out.tab ⟨HOK.out.rate0, HOK.out.rate1⟩ ⟨by omega, by omega⟩
      rwa [show (b.age + b.n - b.f).toNat = b.ix + b.n.toNat by unfold Ben.ix; omega] at h))
    obtain ⟨v0, v1⟩ := ben_val HOK.out
    obtain ⟨p0, p1⟩ := ben_paid HOK.out
    obtain ⟨_, _, d3⟩ := ben_d HOK.out 0
    have d4 := HOK.out.d0
    have c1 := nC_bound HOK.out.tab HOK.out.rate0 b.ix
    have c2 := nC_bound HOK.out.tab HOK.out.rate0 (b.ix + b.n.toNat)
    have c3 := dC_bound HOK.out.tab HOK.out.rate0 b.ix
    have c4 := dC_bound HOK.out.tab HOK.out.rate0 (b.ix + b.n.toNat)
    have H4 := Lib.hid (fun y : World => (show Calls Tryz.prog 38 #[.int .i64 b.val, .int .i64 (b.d 0), .int .i64 b.paid] y (fun e w' => e = .returned (.int .i64 b.prem) ∧ y = w') from spec_l05Up_any b.val (b.d 0) b.paid y ⟨v0, by omega⟩ ⟨by omega, by omega⟩ ⟨by omega, by omega⟩ (by have := ben_pquo HOK.out; omega)))
    have HPD := Lib.hid (show nC b.xs b.rate b.ix - nC b.xs b.rate (b.ix + b.n.toNat) = b.paid from rfl)
    generalize nC b.xs b.rate b.ix = na at H2 HPD c1
    generalize nC b.xs b.rate (b.ix + b.n.toNat) = nb at H3 HPD c2
    have hpd := HPD.out
    change na - nb = b.paid at hpd
    generalize b.paid = pd at H4 p0 p1 hpd
    generalize b.d 0 = dz at H1 H4 d3 d4 p0
    change Hid _ at H1; change Hid _ at H2; change Hid _ at H3; change Hid _ at H4
    clear HPD
    go_wp2
    refine wp_region_past (by kernel_rfl) (by kernel_rfl) ?_
    repeat (first | (go_big_quiet_want; (first | (refine quiet_load_agg 26 _ rfl ⟨w.heap.size, 0, none⟩ rfl [.int .i64 b.f, .slice A n c] hcX.out _ Tryz.underlying26 rfl Tab.size ?_)); go_simp; go_big_quiet_on) | go_big_quiet_step ((first | (go_at_call 39; exact past_call (H1.out _)) | (go_at_call 40; first | with_reducible exact past_call (H2.out _) | with_reducible exact past_call (H3.out _)) | (go_at_call 38; exact past_same (H4.out _)))))
    refine wpQuiet_nil ?_
    rintro _ ⟨y, rfl⟩
    go_wp2
    go_ret2
    exact ⟨by rw [QV.out, HC0.out]; rfl, hbw2.trans (y.2.mono hbw2.size)⟩
end Go.Proofs.YtkdfdbcpbgganaaGreatDoor
end

/- Draws of the arguments of a benefit, of texts of sickness tables. -/
section
namespace Go.Proofs.YtkdfdbcpbgganaaGreatDoor
open Go.RowKit Go.BigFrame

set_option maxHeartbeats 4000000 in
theorem spec_DrawReadSick_any (K : Code) (hK : K.Ok) (w : World) (hX : Rd w w.heap.size K.A 1 (byteRows K.bs)) :
    Calls Tryz.prog 13 #[.slice K.A K.n K.c] w fun e w' => TxtE w w' e := by
  go_enter Tryz.func13, Tryz.ntmps13
  go_wp2_with fail
  refine (spec_l01From_any K hK _ hX).mono ?_
  rintro e w1 ⟨g, rfl, hg, hb, hS⟩
  have hT0 := Nx.refl hS
  go_wp2_with fail
  refine (spec_l09Draw_any K hK g _ _ hT0).mono ?_
  rintro e w2 ⟨f, A1, n1, c1, rfl, hE, hn1, hf1, hT1⟩
  obtain ⟨xs, hL, hc⟩ := sick_lies hE (by omega)
  clear hT0 hE hc
  go_wp2_with fail
  refine (spec_SickText_any f A1 n1 c1 xs _ hL (by unfold In64; omega)).mono ?_
  rintro e w3 ⟨rfl, hb3⟩
  have hT := hT1.past hb3
  have hz := sickP_size f xs
  clear hb3 hT1 hL
  generalize S (sickP f xs) = J at hz ⊢
  go_wp2_with (first | (go_at_call 32; refine (spec_l01Next_any K hK g _ _ _ (Nx.refl (Nx.src (by first | exact hT | exact hT.alloc _ | exact (hT.alloc _).alloc _ | exact hT.drew)))).mono ?_; rintro e w3 ⟨x, rfl, ⟨hx0, hx1⟩, hN⟩; have hT := Nx.trans (by first | exact hT | exact hT.alloc _ | exact (hT.alloc _).alloc _ | exact hT.drew) hN) | (go_at_call 44; refine (spec_l01Damage_any K hK g _ J (by omega) _ hT).mono ?_; rintro e w5 ⟨r, rfl, hr, hT⟩))
  all_goals (go_ret; exact ⟨_, rfl, by omega, hb.trans (hT.out hg)⟩)

/-- what lies there while the arguments of a benefit are drawn -/
structure SV (K : Code) (g : Nat) (w W : World) (B Gt Gk : Nat) (f : Int) (A : Option Addr) (n c : Nat) (f2 : Int) (A2 : Option Addr) (n2 c2 : Nat) : Prop where
  src : Src K g W
  tb : Blk W Gt 26 #[.int .i64 f, .slice A n c]
  kb : Blk W Gk 28 #[.int .i64 f2, .slice A2 n2 c2]
  za : Blk W w.heap.size 26 #[.int .i64 0, .slice none 0 0]
  zb : Blk W (w.heap.size + 1) 28 #[.int .i64 0, .slice none 0 0]
  ti : IntsBy B W A n c 0 1000001
  ki : IntsBy B W A2 n2 c2 (-1) 52001
  out : Below w.heap.size w W
  g0 : w.heap.size + 1 < g
  g1 : g < B
  g2 : g < Gt
  g3 : g < Gk
section
variable {K : Code} {g : Nat} {w W W' : World} {B Gt Gk : Nat} {f : Int} {A : Option Addr} {n c : Nat} {f2 : Int} {A2 : Option Addr} {n2 c2 : Nat}
theorem SV.nxx (h : SV K g w W B Gt Gk f A n c f2 A2 n2 c2) (hN : Nx K g W W') : SV K g w W' B Gt Gk f A n c f2 A2 n2 c2 :=
  ⟨hN.src, h.tb.nx hN (Nat.ne_of_gt h.g2), h.kb.nx hN (Nat.ne_of_gt h.g3), h.za.nx hN (by have := h.g0; omega), h.zb.nx hN (by have := h.g0; omega), h.ti.nx hN h.g1, h.ki.nx hN h.g1, h.out.trans (hN.out (by have := h.g0; omega)), h.g0, h.g1, h.g2, h.g3⟩
theorem SV.nx_ (h : SV K g w W B Gt Gk f A n c f2 A2 n2 c2) : Nx K g W W := Nx.refl h.src
theorem SV.alloc (h : SV K g w W B Gt Gk f A n c f2 A2 n2 c2) (o : Obj) : SV K g w (W.alloc o) B Gt Gk f A n c f2 A2 n2 c2 := h.nxx (h.nx_.alloc o)
theorem SV.drew (h : SV K g w W B Gt Gk f A n c f2 A2 n2 c2) : SV K g w W.drew B Gt Gk f A n c f2 A2 n2 c2 := h.nxx h.nx_.drew
/-- the four cells that are read -/
def SVC (W : World) (Gt Gk : Nat) (f : Int) (A : Option Addr) (n c : Nat) (f2 : Int) (A2 : Option Addr) (n2 c2 : Nat) : Prop := W.cell? ⟨Gt, 0, none⟩ = some (.int .i64 f) ∧ W.cell? ⟨Gt, 1, none⟩ = some (.slice A n c) ∧ W.cell? ⟨Gk, 0, none⟩ = some (.int .i64 f2) ∧ W.cell? ⟨Gk, 1, none⟩ = some (.slice A2 n2 c2)
theorem SV.cells (h : SV K g w W B Gt Gk f A n c f2 A2 n2 c2) : SVC W Gt Gk f A n c f2 A2 n2 c2 := ⟨h.tb.cell 0, h.tb.cell 1, h.kb.cell 0, h.kb.cell 1⟩
/-- the results are written -/
theorem SV.two (h : SV K g w W B Gt Gk f A n c f2 A2 n2 c2) : SVC ((W.setCell ⟨w.heap.size, 0, none⟩ (.int .i64 f)).setCell ⟨w.heap.size, 1, none⟩ (.slice A n c)) Gt Gk f A n c f2 A2 n2 c2 := by
  have e1 : Gt ≠ w.heap.size := by have := h.g0; have := h.g2; omega
  have e2 : Gk ≠ w.heap.size := by have := h.g0; have := h.g3; omega
  have h1 := (h.tb.far (p := ⟨w.heap.size, 0, none⟩) e1 (.int .i64 f)).far (p := ⟨w.heap.size, 1, none⟩) e1 (.slice A n c)
  have h2 := (h.kb.far (p := ⟨w.heap.size, 0, none⟩) e2 (.int .i64 f)).far (p := ⟨w.heap.size, 1, none⟩) e2 (.slice A n c)
  exact ⟨h1.cell 0, h1.cell 1, h2.cell 0, h2.cell 1⟩
def SV.end_ (w W : World) (f : Int) (A : Option Addr) (n c : Nat) (f2 : Int) (A2 : Option Addr) (n2 c2 : Nat) : World := (((W.setCell ⟨w.heap.size, 0, none⟩ (.int .i64 f)).setCell ⟨w.heap.size, 1, none⟩ (.slice A n c)).setCell ⟨w.heap.size + 1, 0, none⟩ (.int .i64 f2)).setCell ⟨w.heap.size + 1, 1, none⟩ (.slice A2 n2 c2)
theorem SV.four (h : SV K g w W B Gt Gk f A n c f2 A2 n2 c2) : SVC (SV.end_ w W f A n c f2 A2 n2 c2) Gt Gk f A n c f2 A2 n2 c2 := by
  have e1 : Gt ≠ w.heap.size := by have := h.g0; have := h.g2; omega
  have e2 : Gk ≠ w.heap.size := by have := h.g0; have := h.g3; omega
  have e3 : Gt ≠ w.heap.size + 1 := by have := h.g0; have := h.g2; omega
  have e4 : Gk ≠ w.heap.size + 1 := by have := h.g0; have := h.g3; omega
  have h1 := (((h.tb.far (p := ⟨w.heap.size, 0, none⟩) e1 (.int .i64 f)).far (p := ⟨w.heap.size, 1, none⟩) e1 (.slice A n c)).far (p := ⟨w.heap.size + 1, 0, none⟩) e3 (.int .i64 f2)).far (p := ⟨w.heap.size + 1, 1, none⟩) e3 (.slice A2 n2 c2)
  have h2 := (((h.kb.far (p := ⟨w.heap.size, 0, none⟩) e2 (.int .i64 f)).far (p := ⟨w.heap.size, 1, none⟩) e2 (.slice A n c)).far (p := ⟨w.heap.size + 1, 0, none⟩) e4 (.int .i64 f2)).far (p := ⟨w.heap.size + 1, 1, none⟩) e4 (.slice A2 n2 c2)
  exact ⟨h1.cell 0, h1.cell 1, h2.cell 0, h2.cell 1⟩
theorem ints_put {B b n c i : Nat} {lo hi : Int} {w : World} {A : Option Addr} (h : IntsBy B w A n c lo hi) (hb : b < B) (u : Value) : IntsBy B (w.setCell ⟨b, i, none⟩ u) A n c lo hi := by
  obtain ⟨xs, hR, hf⟩ := h
  refine ⟨xs, hR.keep fun g hg => ?_, hf⟩
  have := (hR.lt hg).1
  exact Below.heap_setCell _ _ _ _ (by show g ≠ b; omega)
theorem SV.fin (h : SV K g w W B Gt Gk f A n c f2 A2 n2 c2) : Blk (SV.end_ w W f A n c f2 A2 n2 c2) w.heap.size 26 #[.int .i64 f, .slice A n c] ∧ Blk (SV.end_ w W f A n c f2 A2 n2 c2) (w.heap.size + 1) 28 #[.int .i64 f2, .slice A2 n2 c2] ∧ IntsBy w.heap.size (SV.end_ w W f A n c f2 A2 n2 c2) A n c 0 1000001 ∧ IntsBy w.heap.size (SV.end_ w W f A n c f2 A2 n2 c2) A2 n2 c2 (-1) 52001 ∧ Below w.heap.size w (SV.end_ w W f A n c f2 A2 n2 c2) := by
  have q0 := h.g0; have q1 := h.g1
  have e : w.heap.size ≠ w.heap.size + 1 := by omega
  have e' : w.heap.size + 1 ≠ w.heap.size := by omega
  refine ⟨?_, ?_, ?_, ?_, ?_⟩
  · exact (((h.za.set_ 0 (.int .i64 f)).set_ 1 (.slice A n c)).far (p := ⟨w.heap.size + 1, 0, none⟩) e (.int .i64 f2)).far (p := ⟨w.heap.size + 1, 1, none⟩) e (.slice A2 n2 c2)
  · exact (((h.zb.far (p := ⟨w.heap.size, 0, none⟩) e' (.int .i64 f)).far (p := ⟨w.heap.size, 1, none⟩) e' (.slice A n c)).set_ 0 (.int .i64 f2)).set_ 1 (.slice A2 n2 c2)
  · exact (ints_put (ints_put (ints_put (ints_put h.ti (by omega) _) (by omega) _) (by omega) _) (by omega) _).more (by omega)
  · exact (ints_put (ints_put (ints_put (ints_put h.ki (by omega) _) (by omega) _) (by omega) _) (by omega) _).more (by omega)
  · exact (((h.out.setCell (p := ⟨w.heap.size, 0, none⟩) (Nat.le_refl _) _).setCell (p := ⟨w.heap.size, 1, none⟩) (Nat.le_refl _) _).setCell (p := ⟨w.heap.size + 1, 0, none⟩) (Nat.le_succ _) _).setCell (p := ⟨w.heap.size + 1, 1, none⟩) (Nat.le_succ _) _
end
def BenE (w w' : World) (e : Ending) : Prop := ∃ (f : Int) (A : Option Addr) (n c : Nat) (g : Int) (B : Option Addr) (m d : Nat) (rate age q pay : Int), e = .returned (.tuple #[.agg #[.int .i64 f, .slice A n c], .agg #[.int .i64 g, .slice B m d], .int .i64 rate, .int .i64 age, .int .i64 q, .int .i64 pay]) ∧ IntsBy w.heap.size w' A n c 0 1000001 ∧ IntsBy w.heap.size w' B m d (-1) 52001 ∧ (n ≤ 1000 ∧ m ≤ 1000) ∧ (-1 ≤ f ∧ f ≤ 101) ∧ (-1 ≤ g ∧ g ≤ 101) ∧ (-1 ≤ rate ∧ rate ≤ 201) ∧ (-2000 ≤ age ∧ age ≤ 4000) ∧ (0 ≤ q ∧ q ≤ 100) ∧ (0 ≤ pay ∧ pay ≤ 100001) ∧ Below w.heap.size w w'
set_option maxRecDepth 100000 in
set_option maxHeartbeats 8000000 in
theorem spec_DrawSickValue_any (K : Code) (hK : K.Ok) (w : World) (hX : Rd w w.heap.size K.A 1 (byteRows K.bs)) :
    Calls Tryz.prog 6 #[.slice K.A K.n K.c] w fun e w' => BenE w w' e := by
  obtain ⟨hbw, hZA, hZB, hz⟩ := two_boxes w [.int .i64 0, .slice none 0 0] [.int .i64 0, .slice none 0 0] 26 28
  have HZA := Lib.hid hZA; have HZB := Lib.hid hZB; have HX := Lib.hid (hX.past hbw)
  clear hZA hZB hX
  go_enter Tryz.func6, Tryz.ntmps6
  go_upto_region 1 with (fail)
  generalize (w.alloc _).alloc _ = W at hbw HZA HZB HX hz ⊢
  go_wp2_with fail
  refine (spec_l01From_any K hK _ HX.out).mono ?_
  rintro e w1 ⟨g, rfl, hg, hb, hS⟩
  have HZA1 := Lib.hid (HZA.out.below' hb); have HZB1 := Lib.hid (HZB.out.below' hb)
  have HB1 := Lib.hid (hbw.trans (hb.mono hbw.size))
  have hgw : w.heap.size + 1 < g := by omega
  have hgl : g < w1.heap.size := hS.lt
  have hT0 := Nx.refl hS
  clear HZA HZB HX hb hS hg hz
  go_wp2_with fail
  refine (spec_l05Draw_any K hK g _ _ hT0).mono ?_
  rintro e w2 ⟨f, A, n, c, rate, rfl, hE, hn1, hf1, hr, hT1⟩
  clear hT0
  have hgl2 : g < w2.heap.size := hT1.src.lt
  have HT2 := Lib.hid (hT1.alloc (.cells #[.int .i64 f, .slice A n c] 26))
  have HTB := Lib.hid (Blk.new w2 26 #[.int .i64 f, .slice A n c])
  have HTI := Lib.hid (hE.past ((Below.refl w2.heap.size w2).alloc (Nat.le_refl _) (.cells #[.int .i64 f, .slice A n c] 26)))
  clear hE hT1
  go_upto_region 3 with (fail)
  generalize w2.alloc (.cells #[.int .i64 f, .slice A n c] 26) = W2 at HT2 HTB HTI ⊢
  generalize w2.heap.size = Gt at HTB hgl2 ⊢
  have hcT := Lib.hid (Blk.agg (cs := [.int .i64 f, .slice A n c]) HTB.out 0 [.int .i64 f, .slice A n c] rfl)
  go_wp2_with (refine wpList_load_agg rfl 26 _ rfl ⟨Gt, 0, none⟩ rfl [.int .i64 f, .slice A n c] hcT.out _ Tryz.underlying26 rfl Tab.size ?_)
  refine (spec_l03DrawAge_any K hK g _ _ (Nx.refl HT2.out.src) f A n c ⟨by omega, by omega⟩ ⟨by omega, by omega⟩).mono ?_
  rintro e w3 ⟨age, rfl, ha, hT3⟩
  have HT3 := Lib.hid (HT2.out.trans hT3)
  have HTB3 := Lib.hid (HTB.out.nx hT3 (Nat.ne_of_gt hgl2))
  have HTI3 := Lib.hid (HTI.out.nx hT3 hgl)
  clear HT2 HTB HTI hT3 hcT
  go_wp2_with fail
  refine (spec_l09Draw_any K hK g _ _ (Nx.refl HT3.out.src)).mono ?_
  rintro e w4 ⟨f2, A2, n2, c2, rfl, hE2, hn2, hf2, hT4⟩
  have hgl4 : g < w4.heap.size := hT4.src.lt
  have hw3 : w1.heap.size ≤ w3.heap.size := HT3.out.size
  have HKB := Lib.hid (Blk.new w4 28 #[.int .i64 f2, .slice A2 n2 c2])
  have hNA := (HT3.out.trans hT4).alloc (.cells #[.int .i64 f2, .slice A2 n2 c2] 28)
  have HE7 : Hid (SV K g w (w4.alloc (.cells #[.int .i64 f2, .slice A2 n2 c2] 28)) w1.heap.size Gt w4.heap.size f A n c f2 A2 n2 c2) := Lib.hid {
    src := hNA.src, tb := (HTB3.out.nx hT4 (Nat.ne_of_gt hgl2)).alloc _, kb := HKB.out
    za := HZA1.out.nx hNA (by omega), zb := HZB1.out.nx hNA (by omega)
    ti := (HTI3.out.nx hT4 hgl).past ((Below.refl _ _).alloc (Nat.le_refl _) _)
    ki := (hE2.past ((Below.refl _ _).alloc (Nat.le_refl _) _)).more hw3
    out := HB1.out.trans (hNA.out (by omega)), g0 := hgw, g1 := hgl, g2 := hgl2, g3 := hgl4 }
  clear HZA1 HZB1 HB1 HT3 HTB3 HTI3 hE2 hT4 hNA HKB
  go_upto_region 5 with (fail)
  generalize w4.alloc (.cells #[.int .i64 f2, .slice A2 n2 c2] 28) = W7 at HE7 ⊢
  generalize w4.heap.size = Gk at HE7 hgl4 ⊢
  have hT := HE7.out.nx_
  go_wp2_with (go_at_call 32; refine (spec_l01Next_any K hK g _ _ _ (Nx.refl (Nx.src (by first | exact hT | exact hT.alloc _ | exact (hT.alloc _).alloc _ | exact hT.drew)))).mono ?_; rintro e w3 ⟨x, rfl, ⟨hx0, hx1⟩, hN⟩; have hT := Nx.trans (by first | exact hT | exact hT.alloc _ | exact (hT.alloc _).alloc _ | exact hT.drew) hN)
  · have HE := Lib.hid (HE7.out.nxx hT)
    clear hT hN HE7 hx0 hx1
    generalize w3 = V at HE ⊢
    have hgV := HE.out.src.lt
    have HS := Lib.hid (fun w' (h : SV K g w w' w1.heap.size Gt Gk f A n c f2 A2 n2 c2) => (show w'.cell? ⟨Gt, 0, none⟩ = some (.int .i64 f) ∧ w'.cell? ⟨Gt, 1, none⟩ = some (.slice A n c) ∧ w'.cell? ⟨Gk, 0, none⟩ = some (.int .i64 f2) ∧ w'.cell? ⟨Gk, 1, none⟩ = some (.slice A2 n2 c2) from h.cells))
    have HS2 := Lib.hid (fun w' (h : SV K g w w' w1.heap.size Gt Gk f A n c f2 A2 n2 c2) => (show ((w'.setCell ⟨w.heap.size, 0, none⟩ (.int .i64 f)).setCell ⟨w.heap.size, 1, none⟩ (.slice A n c)).cell? ⟨Gt, 0, none⟩ = some (.int .i64 f) ∧ ((w'.setCell ⟨w.heap.size, 0, none⟩ (.int .i64 f)).setCell ⟨w.heap.size, 1, none⟩ (.slice A n c)).cell? ⟨Gt, 1, none⟩ = some (.slice A n c) ∧ ((w'.setCell ⟨w.heap.size, 0, none⟩ (.int .i64 f)).setCell ⟨w.heap.size, 1, none⟩ (.slice A n c)).cell? ⟨Gk, 0, none⟩ = some (.int .i64 f2) ∧ ((w'.setCell ⟨w.heap.size, 0, none⟩ (.int .i64 f)).setCell ⟨w.heap.size, 1, none⟩ (.slice A n c)).cell? ⟨Gk, 1, none⟩ = some (.slice A2 n2 c2) from h.two))
    have HS4 := Lib.hid (fun w' (h : SV K g w w' w1.heap.size Gt Gk f A n c f2 A2 n2 c2) => (show ((((w'.setCell ⟨w.heap.size, 0, none⟩ (.int .i64 f)).setCell ⟨w.heap.size, 1, none⟩ (.slice A n c)).setCell ⟨w.heap.size + 1, 0, none⟩ (.int .i64 f2)).setCell ⟨w.heap.size + 1, 1, none⟩ (.slice A2 n2 c2)).cell? ⟨Gt, 0, none⟩ = some (.int .i64 f) ∧ ((((w'.setCell ⟨w.heap.size, 0, none⟩ (.int .i64 f)).setCell ⟨w.heap.size, 1, none⟩ (.slice A n c)).setCell ⟨w.heap.size + 1, 0, none⟩ (.int .i64 f2)).setCell ⟨w.heap.size + 1, 1, none⟩ (.slice A2 n2 c2)).cell? ⟨Gt, 1, none⟩ = some (.slice A n c) ∧ ((((w'.setCell ⟨w.heap.size, 0, none⟩ (.int .i64 f)).setCell ⟨w.heap.size, 1, none⟩ (.slice A n c)).setCell ⟨w.heap.size + 1, 0, none⟩ (.int .i64 f2)).setCell ⟨w.heap.size + 1, 1, none⟩ (.slice A2 n2 c2)).cell? ⟨Gk, 0, none⟩ = some (.int .i64 f2) ∧ ((((w'.setCell ⟨w.heap.size, 0, none⟩ (.int .i64 f)).setCell ⟨w.heap.size, 1, none⟩ (.slice A n c)).setCell ⟨w.heap.size + 1, 0, none⟩ (.int .i64 f2)).setCell ⟨w.heap.size + 1, 1, none⟩ (.slice A2 n2 c2)).cell? ⟨Gk, 1, none⟩ = some (.slice A2 n2 c2) from h.four))
    have E1 := Lib.hid (HE.out.alloc (.cells #[.int .i64 0, .int .i64 1, .int .i64 60, .int .i64 61] 2))
    have E2 := Lib.hid ((HE.out.alloc (.cells #[.int .i64 0, .int .i64 1, .int .i64 60, .int .i64 61] 2)).alloc (.cells #[.int .i64 0, .int .i64 1, .int .i64 100000, .int .i64 100001] 2))
    have E3 := Lib.hid ((HE.out.alloc (.cells #[.int .i64 0, .int .i64 1, .int .i64 100000, .int .i64 100001] 2)).alloc (.cells #[.int .i64 0, .int .i64 1, .int .i64 60, .int .i64 61] 2))
    have B1 := Lib.hid (Blk.new V 2 #[.int .i64 0, .int .i64 1, .int .i64 60, .int .i64 61])
    have B2 : Hid (Blk ((V.alloc (.cells #[.int .i64 0, .int .i64 1, .int .i64 60, .int .i64 61] 2)).alloc (.cells #[.int .i64 0, .int .i64 1, .int .i64 100000, .int .i64 100001] 2)) V.heap.size 2 #[.int .i64 0, .int .i64 1, .int .i64 60, .int .i64 61] ∧ Blk ((V.alloc (.cells #[.int .i64 0, .int .i64 1, .int .i64 60, .int .i64 61] 2)).alloc (.cells #[.int .i64 0, .int .i64 1, .int .i64 100000, .int .i64 100001] 2)) (V.heap.size + 1) 2 #[.int .i64 0, .int .i64 1, .int .i64 100000, .int .i64 100001]) := Lib.hid ⟨(Blk.new V _ _).alloc _, by have h := Blk.new (V.alloc (.cells #[.int .i64 0, .int .i64 1, .int .i64 60, .int .i64 61] 2)) 2 #[.int .i64 0, .int .i64 1, .int .i64 100000, .int .i64 100001]; rwa [World.size_alloc] at h⟩
    have B3 : Hid (Blk ((V.alloc (.cells #[.int .i64 0, .int .i64 1, .int .i64 100000, .int .i64 100001] 2)).alloc (.cells #[.int .i64 0, .int .i64 1, .int .i64 60, .int .i64 61] 2)) V.heap.size 2 #[.int .i64 0, .int .i64 1, .int .i64 100000, .int .i64 100001] ∧ Blk ((V.alloc (.cells #[.int .i64 0, .int .i64 1, .int .i64 100000, .int .i64 100001] 2)).alloc (.cells #[.int .i64 0, .int .i64 1, .int .i64 60, .int .i64 61] 2)) (V.heap.size + 1) 2 #[.int .i64 0, .int .i64 1, .int .i64 60, .int .i64 61]) := Lib.hid ⟨(Blk.new V _ _).alloc _, by have h := Blk.new (V.alloc (.cells #[.int .i64 0, .int .i64 1, .int .i64 100000, .int .i64 100001] 2)) 2 #[.int .i64 0, .int .i64 1, .int .i64 60, .int .i64 61]; rwa [World.size_alloc] at h⟩
    go_region_held3 (fun w' => w'.cell? ⟨Gt, 0, none⟩ = some (.int .i64 f) ∧ w'.cell? ⟨Gt, 1, none⟩ = some (.slice A n c) ∧ w'.cell? ⟨Gk, 0, none⟩ = some (.int .i64 f2) ∧ w'.cell? ⟨Gk, 1, none⟩ = some (.slice A2 n2 c2)) (first | with_reducible exact HS.out _ HE8.out | with_reducible exact HS.out _ (HE8.out.alloc _) | with_reducible exact HS.out _ (HE8.out.alloc _).drew | with_reducible exact HS2.out _ HE8.out | with_reducible exact HS4.out _ HE8.out | with_reducible exact HS.out _ HE.out.drew | with_reducible exact HS.out _ HE.out | with_reducible exact HS.out _ E1.out | with_reducible exact HS.out _ E1.out.drew | with_reducible exact HS.out _ E2.out | with_reducible exact HS.out _ E2.out.drew | with_reducible exact HS.out _ E3.out | with_reducible exact HS.out _ E3.out.drew | with_reducible exact HS.out _ (HE.out.alloc _) | with_reducible exact HS.out _ (HE.out.alloc _).drew) (first | (go_at_call 33; first | (with_reducible refine (spec_l01Pick_any K hK g _ _ [.int .i64 0, .int .i64 1, .int .i64 100000, .int .i64 100001] 4 _ HE8.out.nx_ HL8.out hl8 rfl (by decide) (by decide) rfl).mono ?_; rintro e w9 ⟨x9, rfl, hx9, hT9⟩; simp only [OneOf, Value.int.injEq, true_and, or_false] at hx9; have HE8 := Lib.hid (HE8.out.nxx hT9); have c0 := HE8.out.za.cell 0; have c1' := HE8.out.za.cell 1; have z0 := HE8.out.za.frozen 0; have z1 := HE8.out.za.frozen 1; have d0 := HE8.out.zb.cell 0; have d1 := HE8.out.zb.cell 1; have y0 := HE8.out.zb.frozen 0; have y1 := HE8.out.zb.frozen 1) | (with_reducible refine (spec_l01Pick_any K hK g _ _ [.int .i64 0, .int .i64 1, .int .i64 100000, .int .i64 100001] 4 _ (HE8.out.nx_.alloc _) (Blk.new w8 _ _) HE8.out.src.lt rfl (by decide) (by decide) rfl).mono ?_; rintro e w9 ⟨x9, rfl, hx9, hT9⟩; simp only [OneOf, Value.int.injEq, true_and, or_false] at hx9; have HE8 := Lib.hid (HE8.out.nxx hT9); have c0 := HE8.out.za.cell 0; have c1' := HE8.out.za.cell 1; have z0 := HE8.out.za.frozen 0; have z1 := HE8.out.za.frozen 1; have d0 := HE8.out.zb.cell 0; have d1 := HE8.out.zb.cell 1; have y0 := HE8.out.zb.frozen 0; have y1 := HE8.out.zb.frozen 1) | (with_reducible refine (spec_l01Pick_any K hK g _ _ [.int .i64 0, .int .i64 1, .int .i64 100000, .int .i64 100001] 4 _ (HE8.out.nx_.alloc _).drew (Blk.new w8 _ _).drew HE8.out.src.lt rfl (by decide) (by decide) rfl).mono ?_; rintro e w9 ⟨x9, rfl, hx9, hT9⟩; simp only [OneOf, Value.int.injEq, true_and, or_false] at hx9; have HE8 := Lib.hid (HE8.out.nxx hT9); have c0 := HE8.out.za.cell 0; have c1' := HE8.out.za.cell 1; have z0 := HE8.out.za.frozen 0; have z1 := HE8.out.za.frozen 1; have d0 := HE8.out.zb.cell 0; have d1 := HE8.out.zb.cell 1; have y0 := HE8.out.zb.frozen 0; have y1 := HE8.out.zb.frozen 1) | (with_reducible refine (spec_l01Pick_any K hK g _ _ [.int .i64 0, .int .i64 1, .int .i64 60, .int .i64 61] 4 _ E1.out.nx_ B1.out hgV rfl (by decide) (by decide) rfl).mono ?_; rintro e w8 ⟨x8, rfl, hx8, hT8⟩; simp only [OneOf, Value.int.injEq, true_and, or_false] at hx8; have HE8 := Lib.hid (E1.out.nxx hT8)) | (with_reducible refine (spec_l01Pick_any K hK g _ _ [.int .i64 0, .int .i64 1, .int .i64 60, .int .i64 61] 4 _ E2.out.nx_ B2.out.1 hgV rfl (by decide) (by decide) rfl).mono ?_; rintro e w8 ⟨x8, rfl, hx8, hT8⟩; simp only [OneOf, Value.int.injEq, true_and, or_false] at hx8; have HE8 := Lib.hid (E2.out.nxx hT8); have HL8 := Lib.hid (B2.out.2.nx hT8 (Nat.ne_of_gt (Nat.lt_succ_of_lt hgV))); have hl8 := Nat.lt_succ_of_lt hgV) | (with_reducible refine (spec_l01Pick_any K hK g _ _ [.int .i64 0, .int .i64 1, .int .i64 60, .int .i64 61] 4 _ E3.out.nx_ B3.out.2 (Nat.lt_succ_of_lt hgV) rfl (by decide) (by decide) rfl).mono ?_; rintro e w8 ⟨x8, rfl, hx8, hT8⟩; simp only [OneOf, Value.int.injEq, true_and, or_false] at hx8; have HE8 := Lib.hid (E3.out.nxx hT8); have HL8 := Lib.hid (B3.out.1.nx hT8 (Nat.ne_of_gt hgV)); have hl8 := hgV) | (with_reducible refine (spec_l01Pick_any K hK g _ _ [.int .i64 0, .int .i64 1, .int .i64 60, .int .i64 61] 4 _ E1.out.drew.nx_ B1.out.drew hgV rfl (by decide) (by decide) rfl).mono ?_; rintro e w8 ⟨x8, rfl, hx8, hT8⟩; simp only [OneOf, Value.int.injEq, true_and, or_false] at hx8; have HE8 := Lib.hid (E1.out.drew.nxx hT8)) | (with_reducible refine (spec_l01Pick_any K hK g _ _ [.int .i64 0, .int .i64 1, .int .i64 60, .int .i64 61] 4 _ E2.out.drew.nx_ B2.out.1.drew hgV rfl (by decide) (by decide) rfl).mono ?_; rintro e w8 ⟨x8, rfl, hx8, hT8⟩; simp only [OneOf, Value.int.injEq, true_and, or_false] at hx8; have HE8 := Lib.hid (E2.out.drew.nxx hT8); have HL8 := Lib.hid (B2.out.2.drew.nx hT8 (Nat.ne_of_gt (Nat.lt_succ_of_lt hgV))); have hl8 := Nat.lt_succ_of_lt hgV) | (with_reducible refine (spec_l01Pick_any K hK g _ _ [.int .i64 0, .int .i64 1, .int .i64 60, .int .i64 61] 4 _ E3.out.drew.nx_ B3.out.2.drew (Nat.lt_succ_of_lt hgV) rfl (by decide) (by decide) rfl).mono ?_; rintro e w8 ⟨x8, rfl, hx8, hT8⟩; simp only [OneOf, Value.int.injEq, true_and, or_false] at hx8; have HE8 := Lib.hid (E3.out.drew.nxx hT8); have HL8 := Lib.hid (B3.out.1.drew.nx hT8 (Nat.ne_of_gt hgV)); have hl8 := hgV)))
    all_goals
      obtain ⟨fA, fB, fT, fK, fO⟩ := HE8.out.fin
      unfold SV.end_ at fA fB fT fK fO
      clear c0 c1' z0 z1 d0 d1 y0 y1 HS HS2 HS4
      generalize (((w9.setCell ⟨w.heap.size, 0, none⟩ (.int .i64 f)).setCell ⟨w.heap.size, 1, none⟩ (.slice A n c)).setCell ⟨w.heap.size + 1, 0, none⟩ (.int .i64 f2)).setCell ⟨w.heap.size + 1, 1, none⟩ (.slice A2 n2 c2) = W9 at fA fB fT fK fO ⊢
      have r0 : W9.cell? ⟨w.heap.size, 0, none⟩ = some (.int .i64 f) := fA.cell 0
      have r1 : W9.cell? ⟨w.heap.size, 1, none⟩ = some (.slice A n c) := fA.cell 1
      have r2 : W9.cell? ⟨w.heap.size + 1, 0, none⟩ = some (.int .i64 f2) := fB.cell 0
      have r3 : W9.cell? ⟨w.heap.size + 1, 1, none⟩ = some (.slice A2 n2 c2) := fB.cell 1
      have FT := Lib.hid fT; have FK := Lib.hid fK; have FO := Lib.hid fO
      clear fA fB fT fK fO
      go_wp2
      refine bodyPost_ret (v := .tuple #[.agg #[.int .i64 f, .slice A n c], .agg #[.int .i64 f2, .slice A2 n2 c2], .int .i64 rate, .int .i64 age, .int .i64 (x8), .int .i64 (x9)]) (by simp [results, Tryz.results6, go_sem, r0, r1, r2, r3]) rfl ?_
      exact ⟨f, A, n, c, f2, A2, n2, c2, rate, age, x8, x9, rfl, FT.out, FK.out, ⟨by omega, by omega⟩, hf1, hf2, hr, ha, by omega, by omega, FO.out⟩
  · have HE := Lib.hid (HE7.out.nxx hT)
    clear hT hN HE7 hx0 hx1
    have HS := Lib.hid (fun w' (h : SV K g w w' w1.heap.size Gt Gk f A n c f2 A2 n2 c2) => (show w'.cell? ⟨Gt, 0, none⟩ = some (.int .i64 f) ∧ w'.cell? ⟨Gt, 1, none⟩ = some (.slice A n c) ∧ w'.cell? ⟨Gk, 0, none⟩ = some (.int .i64 f2) ∧ w'.cell? ⟨Gk, 1, none⟩ = some (.slice A2 n2 c2) from h.cells))
    have HS2 := Lib.hid (fun w' (h : SV K g w w' w1.heap.size Gt Gk f A n c f2 A2 n2 c2) => (show ((w'.setCell ⟨w.heap.size, 0, none⟩ (.int .i64 f)).setCell ⟨w.heap.size, 1, none⟩ (.slice A n c)).cell? ⟨Gt, 0, none⟩ = some (.int .i64 f) ∧ ((w'.setCell ⟨w.heap.size, 0, none⟩ (.int .i64 f)).setCell ⟨w.heap.size, 1, none⟩ (.slice A n c)).cell? ⟨Gt, 1, none⟩ = some (.slice A n c) ∧ ((w'.setCell ⟨w.heap.size, 0, none⟩ (.int .i64 f)).setCell ⟨w.heap.size, 1, none⟩ (.slice A n c)).cell? ⟨Gk, 0, none⟩ = some (.int .i64 f2) ∧ ((w'.setCell ⟨w.heap.size, 0, none⟩ (.int .i64 f)).setCell ⟨w.heap.size, 1, none⟩ (.slice A n c)).cell? ⟨Gk, 1, none⟩ = some (.slice A2 n2 c2) from h.two))
    have HS4 := Lib.hid (fun w' (h : SV K g w w' w1.heap.size Gt Gk f A n c f2 A2 n2 c2) => (show ((((w'.setCell ⟨w.heap.size, 0, none⟩ (.int .i64 f)).setCell ⟨w.heap.size, 1, none⟩ (.slice A n c)).setCell ⟨w.heap.size + 1, 0, none⟩ (.int .i64 f2)).setCell ⟨w.heap.size + 1, 1, none⟩ (.slice A2 n2 c2)).cell? ⟨Gt, 0, none⟩ = some (.int .i64 f) ∧ ((((w'.setCell ⟨w.heap.size, 0, none⟩ (.int .i64 f)).setCell ⟨w.heap.size, 1, none⟩ (.slice A n c)).setCell ⟨w.heap.size + 1, 0, none⟩ (.int .i64 f2)).setCell ⟨w.heap.size + 1, 1, none⟩ (.slice A2 n2 c2)).cell? ⟨Gt, 1, none⟩ = some (.slice A n c) ∧ ((((w'.setCell ⟨w.heap.size, 0, none⟩ (.int .i64 f)).setCell ⟨w.heap.size, 1, none⟩ (.slice A n c)).setCell ⟨w.heap.size + 1, 0, none⟩ (.int .i64 f2)).setCell ⟨w.heap.size + 1, 1, none⟩ (.slice A2 n2 c2)).cell? ⟨Gk, 0, none⟩ = some (.int .i64 f2) ∧ ((((w'.setCell ⟨w.heap.size, 0, none⟩ (.int .i64 f)).setCell ⟨w.heap.size, 1, none⟩ (.slice A n c)).setCell ⟨w.heap.size + 1, 0, none⟩ (.int .i64 f2)).setCell ⟨w.heap.size + 1, 1, none⟩ (.slice A2 n2 c2)).cell? ⟨Gk, 1, none⟩ = some (.slice A2 n2 c2) from h.four))
    go_region_held3 (fun w' => w'.cell? ⟨Gt, 0, none⟩ = some (.int .i64 f) ∧ w'.cell? ⟨Gt, 1, none⟩ = some (.slice A n c) ∧ w'.cell? ⟨Gk, 0, none⟩ = some (.int .i64 f2) ∧ w'.cell? ⟨Gk, 1, none⟩ = some (.slice A2 n2 c2)) (first | with_reducible exact HS.out _ HE8.out | with_reducible exact HS2.out _ HE8.out | with_reducible exact HS4.out _ HE8.out | with_reducible exact HS.out _ HE.out.drew | with_reducible exact HS.out _ HE.out) (first | (go_at_call 32; first | (with_reducible refine (spec_l01Next_any K hK g _ _ _ HE8.out.nx_).mono ?_; rintro e w9 ⟨x9, rfl, ⟨hx90, hx91⟩, hT9⟩; have HE8 := Lib.hid (HE8.out.nxx hT9); have c0 := HE8.out.za.cell 0; have c1' := HE8.out.za.cell 1; have z0 := HE8.out.za.frozen 0; have z1 := HE8.out.za.frozen 1; have d0 := HE8.out.zb.cell 0; have d1 := HE8.out.zb.cell 1; have y0 := HE8.out.zb.frozen 0; have y1 := HE8.out.zb.frozen 1) | (with_reducible refine (spec_l01Next_any K hK g _ _ _ HE.out.nx_.drew).mono ?_; rintro e w8 ⟨x8, rfl, ⟨hx80, hx81⟩, hT8⟩; have HE8 := Lib.hid (HE.out.nxx hT8)) | (with_reducible refine (spec_l01Next_any K hK g _ _ _ HE.out.nx_).mono ?_; rintro e w8 ⟨x8, rfl, ⟨hx80, hx81⟩, hT8⟩; have HE8 := Lib.hid (HE.out.nxx hT8))))
    obtain ⟨fA, fB, fT, fK, fO⟩ := HE8.out.fin
    unfold SV.end_ at fA fB fT fK fO
    clear c0 c1' z0 z1 d0 d1 y0 y1 HS HS2 HS4
    generalize (((w9.setCell ⟨w.heap.size, 0, none⟩ (.int .i64 f)).setCell ⟨w.heap.size, 1, none⟩ (.slice A n c)).setCell ⟨w.heap.size + 1, 0, none⟩ (.int .i64 f2)).setCell ⟨w.heap.size + 1, 1, none⟩ (.slice A2 n2 c2) = W9 at fA fB fT fK fO ⊢
    have r0 : W9.cell? ⟨w.heap.size, 0, none⟩ = some (.int .i64 f) := fA.cell 0
    have r1 : W9.cell? ⟨w.heap.size, 1, none⟩ = some (.slice A n c) := fA.cell 1
    have r2 : W9.cell? ⟨w.heap.size + 1, 0, none⟩ = some (.int .i64 f2) := fB.cell 0
    have r3 : W9.cell? ⟨w.heap.size + 1, 1, none⟩ = some (.slice A2 n2 c2) := fB.cell 1
    have FT := Lib.hid fT; have FK := Lib.hid fK; have FO := Lib.hid fO
    clear fA fB fT fK fO
    have e1 : IntKind.i64.wrap (1 + x8) = 1 + x8 := IntWalk.i64_in _ (by omega)
    have e2 : IntKind.i64.wrap (1 + x9) = 1 + x9 := IntWalk.i64_in _ (by omega)
    rw [e1, e2]
    go_wp2
    refine bodyPost_ret (v := .tuple #[.agg #[.int .i64 f, .slice A n c], .agg #[.int .i64 f2, .slice A2 n2 c2], .int .i64 rate, .int .i64 age, .int .i64 (1 + x8), .int .i64 (1 + x9)]) (by simp [results, Tryz.results6, go_sem, r0, r1, r2, r3]) rfl ?_
    exact ⟨f, A, n, c, f2, A2, n2, c2, rate, age, 1 + x8, 1 + x9, rfl, FT.out, FK.out, ⟨by omega, by omega⟩, hf1, hf2, hr, ha, by omega, by omega, FO.out⟩
end Go.Proofs.YtkdfdbcpbgganaaGreatDoor
end
