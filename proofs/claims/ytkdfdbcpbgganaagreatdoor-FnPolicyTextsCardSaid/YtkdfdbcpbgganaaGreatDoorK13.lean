/- Parts of a proof, one after another: Sick5, Pt1, PtT. No condition. -/
import Derived.Test.YtkdfdbcpbgganaaGreatDoorK7
import Derived.Test.YtkdfdbcpbgganaaGreatDoorK8
import Derived.Test.YtkdfdbcpbgganaaGreatDoorK11
import Derived.Test.YtkdfdbcpbgganaaGreatDoorK12
/- Sickness benefits: codes, values, premiums: the reference. -/
section
namespace Go.Proofs.YtkdfdbcpbgganaaGreatDoor
open Go.RowKit Go.BigFrame

/-- the two boxes of the tables -/
def Ben.tcs (b : Ben) (A : Option Addr) (n c : Nat) : List Value := [.int .i64 b.f, .slice A n c]
def Ben.scs (b : Ben) (B : Option Addr) (m d : Nat) : List Value := [.int .i64 b.g, .slice B m d]
theorem two_boxes (w : World) (X Y : List Value) (tx ty : TypeId) : Below w.heap.size w ((w.alloc (.cells X.toArray tx)).alloc (.cells Y.toArray ty)) ∧ Blk ((w.alloc (.cells X.toArray tx)).alloc (.cells Y.toArray ty)) w.heap.size tx X.toArray ∧ Blk ((w.alloc (.cells X.toArray tx)).alloc (.cells Y.toArray ty)) (w.heap.size + 1) ty Y.toArray ∧ ((w.alloc (.cells X.toArray tx)).alloc (.cells Y.toArray ty)).heap.size = w.heap.size + 2 := by
  refine ⟨((Below.refl _ w).alloc (Nat.le_refl _) _).alloc (by simp) _, (Blk.new w tx X.toArray).alloc _, ?_, by simp⟩
  have := Blk.new (w.alloc (.cells X.toArray tx)) ty Y.toArray
  rwa [World.size_alloc] at this

set_option maxHeartbeats 4000000 in
theorem spec_l09Code_any (b : Ben) (A : Option Addr) (n c : Nat) (B : Option Addr) (m d : Nat) (w : World) (hT : LiesT w A n b.xs) (hc : n ≤ c) (hf : In64 b.f) (hS : LiesT w B m b.ws) :
    Calls Tryz.prog 35 #[.agg #[.int .i64 b.f, .slice A n c], .agg #[.int .i64 b.g, .slice B m d], .int .i64 b.rate, .int .i64 b.age, .int .i64 b.n, .int .i64 b.pay] w fun e w' => e = .returned (.int .i64 b.code) ∧ Below w.heap.size w w' := by
  obtain ⟨hbw, hX, hY, hz⟩ := two_boxes w [.int .i64 b.f, .slice A n c] [.int .i64 b.g, .slice B m d] 26 28
  have HX := Lib.hid hX; have HY := Lib.hid hY
  have HT := Lib.hid (hT.past hbw); clear hT
  have HS := Lib.hid (hS.past hbw); clear hS
  clear hX hY
  go_enter Tryz.func35, Tryz.ntmps35
  go_upto_region 1 with (fail)
  generalize (w.alloc _).alloc _ = W at hbw HX HY HT HS hz ⊢
  have hcY := Lib.hid (Blk.agg (cs := [.int .i64 b.g, .slice B m d]) HY.out 0 [.int .i64 b.g, .slice B m d] rfl)
  go_wp2_with (refine wpList_load_agg rfl 28 _ rfl ⟨w.heap.size + 1, 0, none⟩ rfl [.int .i64 b.g, .slice B m d] hcY.out _ Tryz.underlying28 rfl SickT.size ?_)
  refine (spec_IsSickTable_any b.g B m d b.ws _ HS.out).mono ?_
  rintro e w1 ⟨rfl, hb1⟩
  have hbw1 := hbw.trans (hb1.mono hbw.size)
  have HX1 := Lib.hid (HX.out.below' hb1)
  have HT1 := Lib.hid (HT.out.past hb1)
  clear HX HY HT HS hcY
  cases hs : sickB b.g b.ws
  · have Q := Lib.hid (show b.code = 1 by unfold Ben.code; rw [hs]; rfl)
    go_wp2
    go_ret
    exact ⟨by rw [Q.out]; rfl, hbw1⟩
  have hcX := Lib.hid (Blk.agg_past (cs := [.int .i64 b.f, .slice A n c]) HX1.out 0 [.int .i64 b.f, .slice A n c] rfl)
  cases h1 : inR b.n 1 60
  · have Q := Lib.hid (show b.code = code6 b.f b.xs b.rate b.age false b.n by unfold Ben.code Ben.in_; rw [hs, h1]; rfl)
    have P1 := Lib.hid (fun y : World => (show Calls Tryz.prog 72 #[.int .i64 b.n, .int .i64 1, .int .i64 60] y (fun e w' => e = .returned (.bool false) ∧ y = w') from by have h := spec_l01In_any b.n 1 60 y; rwa [h1] at h))
    go_wp2
    refine wp_region_past (by kernel_rfl) (by kernel_rfl) ?_
    repeat (first | (go_big_quiet_want; (first | (refine quiet_load_agg 26 _ rfl ⟨w.heap.size, 0, none⟩ rfl [.int .i64 b.f, .slice A n c] hcX.out _ Tryz.underlying26 rfl Tab.size ?_)); go_simp; go_big_quiet_on) | go_big_quiet_step ((first | (go_at_call 72; exact past_same (P1.out _)) | (go_at_call 71; exact past_call (spec_l06Code_any b.f A n c b.xs b.rate b.age false b.n _ (HT1.out.at_past _) hc hf)))))
    refine wpQuiet_nil ?_
    rintro _ ⟨y, rfl⟩
    go_wp2
    go_ret
    exact ⟨by rw [Q.out]; rfl, hbw1.trans (y.2.mono hbw1.size)⟩
  cases h2 : inR b.pay 1 100000
  · have Q := Lib.hid (show b.code = code6 b.f b.xs b.rate b.age false b.n by unfold Ben.code Ben.in_; rw [hs, h1, h2]; rfl)
    have P1 := Lib.hid (fun y : World => (show Calls Tryz.prog 72 #[.int .i64 b.n, .int .i64 1, .int .i64 60] y (fun e w' => e = .returned (.bool true) ∧ y = w') from by have h := spec_l01In_any b.n 1 60 y; rwa [h1] at h))
    have P2 := Lib.hid (fun y : World => (show Calls Tryz.prog 72 #[.int .i64 b.pay, .int .i64 1, .int .i64 100000] y (fun e w' => e = .returned (.bool false) ∧ y = w') from by have h := spec_l01In_any b.pay 1 100000 y; rwa [h2] at h))
    go_wp2
    refine wp_region_past (by kernel_rfl) (by kernel_rfl) ?_
    repeat (first | (go_big_quiet_want; (first | (refine quiet_load_agg 26 _ rfl ⟨w.heap.size, 0, none⟩ rfl [.int .i64 b.f, .slice A n c] hcX.out _ Tryz.underlying26 rfl Tab.size ?_)); go_simp; go_big_quiet_on) | go_big_quiet_step ((first | (go_at_call 72; first | with_reducible exact past_same (P1.out _) | with_reducible exact past_same (P2.out _)) | (go_at_call 71; exact past_call (spec_l06Code_any b.f A n c b.xs b.rate b.age false b.n _ (HT1.out.at_past _) hc hf)))))
    refine wpQuiet_nil ?_
    rintro _ ⟨y, rfl⟩
    go_wp2
    go_ret
    exact ⟨by rw [Q.out]; rfl, hbw1.trans (y.2.mono hbw1.size)⟩
  · have Q := Lib.hid (show b.code = code6 b.f b.xs b.rate b.age true b.n by unfold Ben.code Ben.in_; rw [hs, h1, h2]; rfl)
    have P1 := Lib.hid (fun y : World => (show Calls Tryz.prog 72 #[.int .i64 b.n, .int .i64 1, .int .i64 60] y (fun e w' => e = .returned (.bool true) ∧ y = w') from by have h := spec_l01In_any b.n 1 60 y; rwa [h1] at h))
    have P2 := Lib.hid (fun y : World => (show Calls Tryz.prog 72 #[.int .i64 b.pay, .int .i64 1, .int .i64 100000] y (fun e w' => e = .returned (.bool true) ∧ y = w') from by have h := spec_l01In_any b.pay 1 100000 y; rwa [h2] at h))
    go_wp2
    refine wp_region_past (by kernel_rfl) (by kernel_rfl) ?_
    repeat (first | (go_big_quiet_want; (first | (refine quiet_load_agg 26 _ rfl ⟨w.heap.size, 0, none⟩ rfl [.int .i64 b.f, .slice A n c] hcX.out _ Tryz.underlying26 rfl Tab.size ?_)); go_simp; go_big_quiet_on) | go_big_quiet_step ((first | (go_at_call 72; first | with_reducible exact past_same (P1.out _) | with_reducible exact past_same (P2.out _)) | (go_at_call 71; exact past_call (spec_l06Code_any b.f A n c b.xs b.rate b.age true b.n _ (HT1.out.at_past _) hc hf)))))
    refine wpQuiet_nil ?_
    rintro _ ⟨y, rfl⟩
    go_wp2
    go_ret
    exact ⟨by rw [Q.out]; rfl, hbw1.trans (y.2.mono hbw1.size)⟩

set_option maxHeartbeats 8000000 in
theorem spec_l09Value_any (b : Ben) (A : Option Addr) (n c : Nat) (B : Option Addr) (m d : Nat) (w : World) (hT : LiesT w A n b.xs) (hS : LiesT w B m b.ws) (hb : BenOk b) :
    Calls Tryz.prog 36 #[.agg #[.int .i64 b.f, .slice A n c], .agg #[.int .i64 b.g, .slice B m d], .int .i64 b.rate, .int .i64 b.age, .int .i64 b.n, .int .i64 b.pay] w fun e w' => e = .returned (.int .i64 b.val) ∧ Below w.heap.size w w' := by
  obtain ⟨hbw, hX, hY, hz⟩ := two_boxes w [.int .i64 b.f, .slice A n c] [.int .i64 b.g, .slice B m d] 26 28
  have HX := Lib.hid hX; have HY := Lib.hid hY
  have HT := Lib.hid (hT.past hbw); clear hT
  have HS := Lib.hid (hS.past hbw); clear hS
  clear hX hY
  have HB := Lib.hid hb; clear hb
  obtain ⟨q, hq⟩ : ∃ q : Nat, b.n = (q : Int) := Int.eq_ofNat_of_zero_le (by have := HB.out.n0; omega)
  have hq60 : q ≤ 60 := by have := HB.out.n1; omega
  have HQ := Lib.hid hq
  have HV := Lib.hid (show b.val = sumF b.term 0 q by unfold Ben.val; rw [hq]; rfl)
  have a0 := HB.out.age0; have a1 := HB.out.end1; have n0 := HB.out.n0; have f0 := HB.out.tab.first0; have f1 := HB.out.tab.first1
  rw [hq] at a1 n0
  clear hq
  go_enter Tryz.func36, Tryz.ntmps36
  go_wp2_with fail
  generalize (w.alloc _).alloc _ = W at hbw HX HY HT HS hz ⊢
  rw [HQ.out]
  have hW : w.heap.size + 1 < W.heap.size := by omega
  go_loopw [13, 14] (fun o i wr => ∃ k : Nat, k ≤ q ∧ i = .int .i64 k ∧ o = .int .i64 (sumF b.term 0 k) ∧ Hid (Below W.heap.size W wr)) (fun _ i _ => q - (intOf i).toNat)
  case atStart => exact ⟨0, by omega, rfl, rfl, Lib.hid (Below.refl _ _)⟩
  case round =>
    obtain ⟨k, hk, rfl, rfl, HR⟩ := hrel
    have HXr := Lib.hid (HX.out.below' HR.out)
    have HYr := Lib.hid (HY.out.below' HR.out)
    have HTr := Lib.hid (HT.out.past HR.out)
    have HSr := Lib.hid (HS.out.past HR.out)
    by_cases hlt : k < q
    · have hki : (k : Int) < (q : Int) := by omega
      have hcX := Lib.hid (Blk.agg_past (cs := [.int .i64 b.f, .slice A n c]) HXr.out 0 [.int .i64 b.f, .slice A n c] rfl)
      have hcY := Lib.hid (Blk.agg_past (cs := [.int .i64 b.g, .slice B m d]) HYr.out 0 [.int .i64 b.g, .slice B m d] rfl)
      have H1 := Lib.hid (fun y : Past wr => (show Calls Tryz.prog 73 #[.agg #[.int .i64 b.g, .slice B m d], .int .i64 (b.age + (k : Int))] y.1 (fun e w' => e = .returned (.int .i64 (b.week k)) ∧ Below y.1.heap.size y.1 w') from spec_l09Weeks_any b.g B m d b.ws (b.age + (k : Int)) y.1 (HSr.out.at_past y) ⟨HB.out.sick.first0, HB.out.sick.first1⟩ ⟨by omega, by omega⟩))
      have H2 := Lib.hid (fun y : Past wr => (show Calls Tryz.prog 39 #[.agg #[.int .i64 b.f, .slice A n c], .int .i64 b.rate, .int .i64 (b.age + (k : Int))] y.1 (fun e w' => e = .returned (.int .i64 (b.d k)) ∧ Below y.1.heap.size y.1 w') from by
        have h := spec_l05D_any b.f A n c b.xs b.rate (b.age + (k : Int)) y.1 (HTr.out.at_past y) HB.out.tab ⟨HB.out.rate0, HB.out.rate1⟩ ⟨by omega, by omega⟩
        rwa [show (b.age + (k : Int) - b.f).toNat = b.ix + k by unfold Ben.ix; omega] at h))
      have H3 := Lib.hid (fun y : Past wr => (show Calls Tryz.prog 39 #[.agg #[.int .i64 b.f, .slice A n c], .int .i64 b.rate, .int .i64 b.age] y.1 (fun e w' => e = .returned (.int .i64 (b.d 0)) ∧ Below y.1.heap.size y.1 w') from by
        have h := spec_l05D_any b.f A n c b.xs b.rate b.age y.1 (HTr.out.at_past y) HB.out.tab ⟨HB.out.rate0, HB.out.rate1⟩ ⟨by omega, by omega⟩
        exact h))
      obtain ⟨p0, p1⟩ := ben_pay HB.out k
      obtain ⟨d1, d2, d3⟩ := ben_d HB.out k
      have d4 := HB.out.d0
      have H4 := Lib.hid (fun y : World => spec_l05Up_any (b.pay * b.week k) (b.d k) (1000 * b.d 0) y ⟨p0, by omega⟩ ⟨d1, by omega⟩ ⟨by omega, by omega⟩ (by have := ben_quo HB.out k; omega))
      obtain ⟨s0, s1⟩ := ben_part HB.out k (by omega)
      obtain ⟨t0, t1⟩ := ben_term HB.out k
      have HN := Lib.hid (show sumF b.term 0 (k + 1) = sumF b.term 0 k + b.term k by rw [sumF_snoc, Nat.zero_add])
      have HTM := Lib.hid (show upP (b.pay * b.week k) (b.d k) (1000 * b.d 0) = b.term k from rfl)
      rw [HTM.out] at H4
      generalize b.week k = wk at H1 H4 p0 p1
      generalize b.d k = dk at H2 H4 d1 d2
      generalize b.d 0 = dz at H3 H4 d2 d3 d4
      generalize b.term k = tk at H4 HN t0 t1
      generalize sumF b.term 0 k = sk at HN s0 s1 ⊢
      change Hid _ at H1; change Hid _ at H2; change Hid _ at H3; change Hid _ at H4; change Hid _ at HN
      clear HTM
      go_wp2
      refine wp_region_past (by kernel_rfl) (by kernel_rfl) ?_
      repeat (first | (go_big_quiet_want; (first | (refine quiet_load_agg 26 _ rfl ⟨w.heap.size, 0, none⟩ rfl [.int .i64 b.f, .slice A n c] hcX.out _ Tryz.underlying26 rfl Tab.size ?_) | (refine quiet_load_agg 28 _ rfl ⟨w.heap.size + 1, 0, none⟩ rfl [.int .i64 b.g, .slice B m d] hcY.out _ Tryz.underlying28 rfl SickT.size ?_)); go_simp; go_big_quiet_on) | go_big_quiet_step ((first | (go_at_call 73; exact past_call (H1.out _)) | (go_at_call 39; first | with_reducible exact past_call (H2.out _) | with_reducible exact past_call (H3.out _)) | (go_at_call 38; exact past_same (H4.out _)))))
      refine wpQuiet_nil ?_
      rintro _ ⟨y, rfl⟩
      have HR2 := Lib.hid (HR.out.trans (y.2.mono HR.out.size))
      go_wp2
      go_roundw
      case rel => exact ⟨k + 1, by omega, by go_num, by rw [HN.out], HR2⟩
      case measure => simp [intOf]; omega
    · have hkq : k = q := by omega
      subst hkq
      go_wp2
      go_ret
      exact ⟨by rw [HV.out]; rfl, hbw.trans (HR.out.mono hbw.size)⟩

set_option maxHeartbeats 4000000 in
theorem spec_SickValue_any (b : Ben) (A : Option Addr) (n c : Nat) (B : Option Addr) (m d : Nat) (w : World) (hT : LiesT w A n b.xs) (hc : n ≤ c) (hf : In64 b.f) (hS : LiesT w B m b.ws) :
    Calls Tryz.prog 8 #[.agg #[.int .i64 b.f, .slice A n c], .agg #[.int .i64 b.g, .slice B m d], .int .i64 b.rate, .int .i64 b.age, .int .i64 b.n, .int .i64 b.pay] w fun e w' => e = .returned (.tuple #[.int .i64 b.v, .int .i64 b.code]) ∧ Below w.heap.size w w' := by
  obtain ⟨hbw, hX, hY, hz⟩ := two_boxes w [.int .i64 b.f, .slice A n c] [.int .i64 b.g, .slice B m d] 26 28
  have HX := Lib.hid hX; have HY := Lib.hid hY
  have HT := Lib.hid (hT.past hbw); clear hT
  have HS := Lib.hid (hS.past hbw); clear hS
  clear hX hY
  go_enter Tryz.func8, Tryz.ntmps8
  go_upto_region 1 with (fail)
  generalize (w.alloc _).alloc _ = W at hbw HX HY HT HS hz ⊢
  have hcX := Lib.hid (Blk.agg (cs := [.int .i64 b.f, .slice A n c]) HX.out 0 [.int .i64 b.f, .slice A n c] rfl)
  have hcY := Lib.hid (Blk.agg (cs := [.int .i64 b.g, .slice B m d]) HY.out 0 [.int .i64 b.g, .slice B m d] rfl)
  go_wp2_with (first | (refine wpList_load_agg rfl 28 _ rfl ⟨w.heap.size + 1, 0, none⟩ rfl [.int .i64 b.g, .slice B m d] hcY.out _ Tryz.underlying28 rfl SickT.size ?_) | (refine wpList_load_agg rfl 26 _ rfl ⟨w.heap.size, 0, none⟩ rfl [.int .i64 b.f, .slice A n c] hcX.out _ Tryz.underlying26 rfl Tab.size ?_))
  refine (spec_l09Code_any b A n c B m d _ HT.out hc hf HS.out).mono ?_
  rintro e w1 ⟨rfl, hb1⟩
  have hbw1 := hbw.trans (hb1.mono hbw.size)
  have HX1 := Lib.hid (HX.out.below' hb1)
  have HY1 := Lib.hid (HY.out.below' hb1)
  have HT1 := Lib.hid (HT.out.past hb1)
  have HS1 := Lib.hid (HS.out.past hb1)
  clear HX HY HT HS hcX hcY
  by_cases h0 : b.code = 0
  rotate_left
  · have QV := Lib.hid (show b.v = 0 from if_neg h0)
    obtain ⟨z, hzz⟩ : ∃ z, b.code = z := ⟨_, rfl⟩
    have HZZ := Lib.hid hzz
    rw [hzz] at h0 ⊢
    clear hzz
    go_wp2
    go_ret2
    exact ⟨by rw [QV.out, HZZ.out]; rfl, hbw1⟩
  · have QV := Lib.hid (show b.v = b.val from if_pos h0)
    have HC0 := Lib.hid h0
    have HOK := Lib.hid (ben_ok h0)
    rw [h0]
    clear h0
    have hcX := Lib.hid (Blk.agg (cs := [.int .i64 b.f, .slice A n c]) HX1.out 0 [.int .i64 b.f, .slice A n c] rfl)
    have hcY := Lib.hid (Blk.agg (cs := [.int .i64 b.g, .slice B m d]) HY1.out 0 [.int .i64 b.g, .slice B m d] rfl)
    go_wp2_with (first | (refine wpList_load_agg rfl 28 _ rfl ⟨w.heap.size + 1, 0, none⟩ rfl [.int .i64 b.g, .slice B m d] hcY.out _ Tryz.underlying28 rfl SickT.size ?_) | (refine wpList_load_agg rfl 26 _ rfl ⟨w.heap.size, 0, none⟩ rfl [.int .i64 b.f, .slice A n c] hcX.out _ Tryz.underlying26 rfl Tab.size ?_))
    refine (spec_l09Value_any b A n c B m d _ HT1.out HS1.out HOK.out).mono ?_
    rintro e w2 ⟨rfl, hb2⟩
    go_wp2
    go_ret2
    exact ⟨by rw [QV.out, HC0.out]; rfl, hbw1.trans (hb2.mono hbw1.size)⟩

set_option maxHeartbeats 4000000 in
theorem spec_SickPremium_any (b : Ben) (A : Option Addr) (n c : Nat) (B : Option Addr) (m d : Nat) (w : World) (hT : LiesT w A n b.xs) (hc : n ≤ c) (hf : In64 b.f) (hS : LiesT w B m b.ws) :
    Calls Tryz.prog 10 #[.agg #[.int .i64 b.f, .slice A n c], .agg #[.int .i64 b.g, .slice B m d], .int .i64 b.rate, .int .i64 b.age, .int .i64 b.n, .int .i64 b.pay] w fun e w' => e = .returned (.tuple #[.int .i64 b.p, .int .i64 b.code]) ∧ Below w.heap.size w w' := by
  obtain ⟨hbw, hX, hY, hz⟩ := two_boxes w [.int .i64 b.f, .slice A n c] [.int .i64 b.g, .slice B m d] 26 28
  have HX := Lib.hid hX; have HY := Lib.hid hY
  have HT := Lib.hid (hT.past hbw); clear hT
  have HS := Lib.hid (hS.past hbw); clear hS
  clear hX hY
  go_enter Tryz.func10, Tryz.ntmps10
  go_upto_region 1 with (fail)
  generalize (w.alloc _).alloc _ = W at hbw HX HY HT HS hz ⊢
  have hcX := Lib.hid (Blk.agg (cs := [.int .i64 b.f, .slice A n c]) HX.out 0 [.int .i64 b.f, .slice A n c] rfl)
  have hcY := Lib.hid (Blk.agg (cs := [.int .i64 b.g, .slice B m d]) HY.out 0 [.int .i64 b.g, .slice B m d] rfl)
  go_wp2_with (first | (refine wpList_load_agg rfl 28 _ rfl ⟨w.heap.size + 1, 0, none⟩ rfl [.int .i64 b.g, .slice B m d] hcY.out _ Tryz.underlying28 rfl SickT.size ?_) | (refine wpList_load_agg rfl 26 _ rfl ⟨w.heap.size, 0, none⟩ rfl [.int .i64 b.f, .slice A n c] hcX.out _ Tryz.underlying26 rfl Tab.size ?_))
  refine (spec_l09Code_any b A n c B m d _ HT.out hc hf HS.out).mono ?_
  rintro e w1 ⟨rfl, hb1⟩
  have hbw1 := hbw.trans (hb1.mono hbw.size)
  have HX1 := Lib.hid (HX.out.below' hb1)
  have HY1 := Lib.hid (HY.out.below' hb1)
  have HT1 := Lib.hid (HT.out.past hb1)
  have HS1 := Lib.hid (HS.out.past hb1)
  clear HX HY HT HS hcX hcY
  by_cases h0 : b.code = 0
  rotate_left
  · have QV := Lib.hid (show b.p = 0 from if_neg h0)
    obtain ⟨z, hzz⟩ : ∃ z, b.code = z := ⟨_, rfl⟩
    have HZZ := Lib.hid hzz
    rw [hzz] at h0 ⊢
    clear hzz
    go_wp2
    go_ret2
    exact ⟨by rw [QV.out, HZZ.out]; rfl, hbw1⟩
  · have QV := Lib.hid (show b.p = b.prem from if_pos h0)
    have HC0 := Lib.hid h0
    have HOK := Lib.hid (ben_ok h0)
    rw [h0]
    clear h0
    have hcX := Lib.hid (Blk.agg (cs := [.int .i64 b.f, .slice A n c]) HX1.out 0 [.int .i64 b.f, .slice A n c] rfl)
    have hcY := Lib.hid (Blk.agg (cs := [.int .i64 b.g, .slice B m d]) HY1.out 0 [.int .i64 b.g, .slice B m d] rfl)
    go_wp2_with (first | (refine wpList_load_agg rfl 28 _ rfl ⟨w.heap.size + 1, 0, none⟩ rfl [.int .i64 b.g, .slice B m d] hcY.out _ Tryz.underlying28 rfl SickT.size ?_) | (refine wpList_load_agg rfl 26 _ rfl ⟨w.heap.size, 0, none⟩ rfl [.int .i64 b.f, .slice A n c] hcX.out _ Tryz.underlying26 rfl Tab.size ?_))
    refine (spec_l09Value_any b A n c B m d _ HT1.out HS1.out HOK.out).mono ?_
    rintro e w2 ⟨rfl, hb2⟩
    have hbw2 := hbw1.trans (hb2.mono hbw1.size)
    have HX2 := Lib.hid (HX1.out.below' hb2)
    have HT2 := Lib.hid (HT1.out.past hb2)
    clear HX1 HY1 HS1 hcX hcY
    have hcX := Lib.hid (Blk.agg_past (cs := [.int .i64 b.f, .slice A n c]) HX2.out 0 [.int .i64 b.f, .slice A n c] rfl)
    have a0 := HOK.out.age0; have a1 := HOK.out.end1; have n0 := HOK.out.n0; have n1 := HOK.out.n1; have f0 := HOK.out.tab.first0
    have H1 := Lib.hid (fun y : Past w2 => (show Calls Tryz.prog 39 #[.agg #[.int .i64 b.f, .slice A n c], .int .i64 b.rate, .int .i64 b.age] y.1 (fun e w' => e = .returned (.int .i64 (b.d 0)) ∧ Below y.1.heap.size y.1 w') from by
      have h := spec_l05D_any b.f A n c b.xs b.rate b.age y.1 (HT2.out.at_past y) HOK.out.tab ⟨HOK.out.rate0, HOK.out.rate1⟩ ⟨by omega, by omega⟩
      exact h))
    have H2 := Lib.hid (fun y : Past w2 => (show Calls Tryz.prog 40 #[.agg #[.int .i64 b.f, .slice A n c], .int .i64 b.rate, .int .i64 b.age] y.1 (fun e w' => e = .returned (.int .i64 (nC b.xs b.rate b.ix)) ∧ Below y.1.heap.size y.1 w') from by
      have h := spec_l05N_any b.f A n c b.xs b.rate b.age y.1 (HT2.out.at_past y) HOK.out.tab ⟨HOK.out.rate0, HOK.out.rate1⟩ ⟨by omega, by omega⟩
      exact h))
    have H3 := Lib.hid (fun y : Past w2 => (show Calls Tryz.prog 40 #[.agg #[.int .i64 b.f, .slice A n c], .int .i64 b.rate, .int .i64 (b.age + b.n)] y.1 (fun e w' => e = .returned (.int .i64 (nC b.xs b.rate (b.ix + b.n.toNat))) ∧ Below y.1.heap.size y.1 w') from by
      have h := spec_l05N_any b.f A n c b.xs b.rate (b.age + b.n) y.1 (HT2.out.at_past y) HOK.out.tab ⟨HOK.out.rate0, HOK.out.rate1⟩ ⟨by omega, by omega⟩
      rwa [show (b.age + b.n - b.f).toNat = b.ix + b.n.toNat by unfold Ben.ix; omega] at h))
    obtain ⟨v0, v1⟩ := ben_val HOK.out
    obtain ⟨p0, p1⟩ := ben_paid HOK.out
    obtain ⟨_, _, d3⟩ := ben_d HOK.out 0
    have d4 := HOK.out.d0
    have c1 := nC_bound HOK.out.tab HOK.out.rate0 b.ix
    have c2 := nC_bound HOK.out.tab HOK.out.rate0 (b.ix + b.n.toNat)
    have c3 := dC_bound HOK.out.tab HOK.out.rate0 b.ix
    have c4 := dC_bound HOK.out.tab HOK.out.rate0 (b.ix + b.n.toNat)
    have H4 := Lib.hid (fun y : World => (show Calls Tryz.prog 38 #[.int .i64 b.val, .int .i64 (b.d 0), .int .i64 b.paid] y (fun e w' => e = .returned (.int .i64 b.prem) ∧ y = w') from spec_l05Up_any b.val (b.d 0) b.paid y ⟨v0, by omega⟩ ⟨by omega, by omega⟩ ⟨by omega, by omega⟩ (by have := ben_pquo HOK.out; omega)))
    have HPD := Lib.hid (show nC b.xs b.rate b.ix - nC b.xs b.rate (b.ix + b.n.toNat) = b.paid from rfl)
    generalize nC b.xs b.rate b.ix = na at H2 HPD c1
    generalize nC b.xs b.rate (b.ix + b.n.toNat) = nb at H3 HPD c2
    have hpd := HPD.out
    change na - nb = b.paid at hpd
    generalize b.paid = pd at H4 p0 p1 hpd
    generalize b.d 0 = dz at H1 H4 d3 d4 p0
    change Hid _ at H1; change Hid _ at H2; change Hid _ at H3; change Hid _ at H4
    clear HPD
    go_wp2
    refine wp_region_past (by kernel_rfl) (by kernel_rfl) ?_
    repeat (first | (go_big_quiet_want; (first | (refine quiet_load_agg 26 _ rfl ⟨w.heap.size, 0, none⟩ rfl [.int .i64 b.f, .slice A n c] hcX.out _ Tryz.underlying26 rfl Tab.size ?_)); go_simp; go_big_quiet_on) | go_big_quiet_step ((first | (go_at_call 39; exact past_call (H1.out _)) | (go_at_call 40; first | with_reducible exact past_call (H2.out _) | with_reducible exact past_call (H3.out _)) | (go_at_call 38; exact past_same (H4.out _)))))
    refine wpQuiet_nil ?_
    rintro _ ⟨y, rfl⟩
    go_wp2
    go_ret2
    exact ⟨by rw [QV.out, HC0.out]; rfl, hbw2.trans (y.2.mono hbw2.size)⟩
end Go.Proofs.YtkdfdbcpbgganaaGreatDoor
end

/- The sum for a premium, the office premium: both sides. -/
section
namespace Go.Proofs.YtkdfdbcpbgganaaGreatDoor
open Go.RowKit Go.BigFrame

theorem Policy.row_at (p : Policy) (m : Int) : (p.at_ m).row = [.int .i64 p.kind, .int .i64 p.age, .int .i64 p.years, .int .i64 m, .int .i64 p.load] := rfl
set_option maxHeartbeats 4000000 in
theorem impl_OfficePremium_any (b : Bas) (A : Option Addr) (n cap : Nat) (p : Policy) (w : World) (hB : BasT w A n cap b) (hp : p.fits) :
    Calls Tryz.prog 27 #[.agg #[.int .i64 b.first, .slice A n cap, .int .i64 b.rate], .agg p.row.toArray] w fun e w' => e = .returned (.tuple #[.int .i64 (if polB b p = true then officeP b p else 0), .int .i64 (if polB b p = true then 0 else 1)]) ∧ Below w.heap.size w w' := by
  unfold Policy.row
  obtain ⟨hbw, hX, hY, hz⟩ := two_boxes w [.int .i64 b.first, .slice A n cap, .int .i64 b.rate] [.int .i64 p.kind, .int .i64 p.age, .int .i64 p.years, .int .i64 p.sum, .int .i64 p.load] 40 42
  have HX := Lib.hid hX; have HY := Lib.hid hY
  have HT := Lib.hid (hB.past hbw); clear hB
  clear hX hY hz
  cases h1 : polB b p
  · skip
    go_enter Tryz.func27, Tryz.ntmps27
    go_upto_region 1 with (fail)
    generalize (w.alloc _).alloc _ = W at hbw HX HY HT ⊢
    have hcX := Lib.hid (Blk.agg (cs := [.int .i64 b.first, .slice A n cap, .int .i64 b.rate]) HX.out 0 [.int .i64 b.first, .slice A n cap, .int .i64 b.rate] rfl)
    have hcY := Lib.hid (Blk.agg (cs := [.int .i64 p.kind, .int .i64 p.age, .int .i64 p.years, .int .i64 p.sum, .int .i64 p.load]) HY.out 0 [.int .i64 p.kind, .int .i64 p.age, .int .i64 p.years, .int .i64 p.sum, .int .i64 p.load] rfl)
    go_wp2_with (first | (refine wpList_load_agg rfl 40 _ rfl ⟨w.heap.size, 0, none⟩ rfl [.int .i64 b.first, .slice A n cap, .int .i64 b.rate] hcX.out _ Tryz.underlying40 rfl Bas.size ?_) | (refine wpList_load_agg rfl 42 _ rfl ⟨w.heap.size + 1, 0, none⟩ rfl [.int .i64 p.kind, .int .i64 p.age, .int .i64 p.years, .int .i64 p.sum, .int .i64 p.load] hcY.out _ Tryz.underlying42 rfl Policy.size ?_))
    refine (impl_IsPolicy_any b A n cap p _ HT.out hp).mono ?_
    rw [h1]
    rintro e w1 ⟨rfl, hb⟩
    go_wp2
    go_ret2
    exact ⟨rfl, hbw.trans (hb.mono hbw.size)⟩
  · skip
    go_enter Tryz.func27, Tryz.ntmps27
    go_upto_region 1 with (fail)
    generalize (w.alloc _).alloc _ = W at hbw HX HY HT ⊢
    have hcX := Lib.hid (Blk.agg (cs := [.int .i64 b.first, .slice A n cap, .int .i64 b.rate]) HX.out 0 [.int .i64 b.first, .slice A n cap, .int .i64 b.rate] rfl)
    have hcY := Lib.hid (Blk.agg (cs := [.int .i64 p.kind, .int .i64 p.age, .int .i64 p.years, .int .i64 p.sum, .int .i64 p.load]) HY.out 0 [.int .i64 p.kind, .int .i64 p.age, .int .i64 p.years, .int .i64 p.sum, .int .i64 p.load] rfl)
    go_wp2_with (first | (refine wpList_load_agg rfl 40 _ rfl ⟨w.heap.size, 0, none⟩ rfl [.int .i64 b.first, .slice A n cap, .int .i64 b.rate] hcX.out _ Tryz.underlying40 rfl Bas.size ?_) | (refine wpList_load_agg rfl 42 _ rfl ⟨w.heap.size + 1, 0, none⟩ rfl [.int .i64 p.kind, .int .i64 p.age, .int .i64 p.years, .int .i64 p.sum, .int .i64 p.load] hcY.out _ Tryz.underlying42 rfl Policy.size ?_))
    refine (impl_IsPolicy_any b A n cap p _ HT.out hp).mono ?_
    rw [h1]
    rintro e w1 ⟨rfl, hb⟩
    have HX1 := Lib.hid (HX.out.below' hb); have HY1 := Lib.hid (HY.out.below' hb); have HT1 := Lib.hid (HT.out.past hb)
    have HB1 := Lib.hid (hbw.trans (hb.mono hbw.size))
    clear HX HY HT hcX hcY hb hbw
    have hcX := Lib.hid (Blk.agg (cs := [.int .i64 b.first, .slice A n cap, .int .i64 b.rate]) HX1.out 0 [.int .i64 b.first, .slice A n cap, .int .i64 b.rate] rfl)
    have hcY := Lib.hid (Blk.agg (cs := [.int .i64 p.kind, .int .i64 p.age, .int .i64 p.years, .int .i64 p.sum, .int .i64 p.load]) HY1.out 0 [.int .i64 p.kind, .int .i64 p.age, .int .i64 p.years, .int .i64 p.sum, .int .i64 p.load] rfl)
    go_wp2_with (first | (refine wpList_load_agg rfl 40 _ rfl ⟨w.heap.size, 0, none⟩ rfl [.int .i64 b.first, .slice A n cap, .int .i64 b.rate] hcX.out _ Tryz.underlying40 rfl Bas.size ?_) | (refine wpList_load_agg rfl 42 _ rfl ⟨w.heap.size + 1, 0, none⟩ rfl [.int .i64 p.kind, .int .i64 p.age, .int .i64 p.years, .int .i64 p.sum, .int .i64 p.load] hcY.out _ Tryz.underlying42 rfl Policy.size ?_))
    refine (impl_officePremium_any b A n cap p _ HT1.out h1).mono ?_
    rintro e w2 ⟨rfl, hb⟩
    go_wp2
    go_ret2
    exact ⟨rfl, HB1.out.trans (hb.mono HB1.out.size)⟩

set_option maxHeartbeats 8000000 in
theorem impl_SumForPremium_any (b : Bas) (A : Option Addr) (n cap : Nat) (p : Policy) (prem : Int) (w : World) (hB : BasT w A n cap b) (hp : p.fits) :
    Calls Tryz.prog 19 #[.agg #[.int .i64 b.first, .slice A n cap, .int .i64 b.rate], .agg p.row.toArray, .int .i64 prem] w fun e w' => e = .returned (.tuple #[.int .i64 (sumV b p prem), .int .i64 (sumC b p prem)]) ∧ Below w.heap.size w w' := by
  unfold Policy.row
  have HB0 := Lib.hid hB
  obtain ⟨hbw, hX, hY, hz⟩ := two_boxes w [.int .i64 b.first, .slice A n cap, .int .i64 b.rate] [.int .i64 p.kind, .int .i64 p.age, .int .i64 p.years, .int .i64 p.sum, .int .i64 p.load] 40 42
  have HX := Lib.hid hX; have HY := Lib.hid hY
  have HT := Lib.hid (hB.past hbw); clear hB
  clear hX hY hz
  cases h1 : polB b p
  · have Q := Lib.hid (show sumC b p prem = 1 by unfold sumC; rw [h1]; rfl)
    have QV := Lib.hid (show sumV b p prem = 0 by unfold sumV; rw [Q.out]; rfl)
    go_enter Tryz.func19, Tryz.ntmps19
    go_upto_region 1 with (fail)
    generalize (w.alloc _).alloc _ = W at hbw HX HY HT ⊢
    have hcX := Lib.hid (Blk.agg (cs := [.int .i64 b.first, .slice A n cap, .int .i64 b.rate]) HX.out 0 [.int .i64 b.first, .slice A n cap, .int .i64 b.rate] rfl)
    have hcY := Lib.hid (Blk.agg (cs := [.int .i64 p.kind, .int .i64 p.age, .int .i64 p.years, .int .i64 p.sum, .int .i64 p.load]) HY.out 0 [.int .i64 p.kind, .int .i64 p.age, .int .i64 p.years, .int .i64 p.sum, .int .i64 p.load] rfl)
    go_wp2_with (first | (refine wpList_load_agg rfl 40 _ rfl ⟨w.heap.size, 0, none⟩ rfl [.int .i64 b.first, .slice A n cap, .int .i64 b.rate] hcX.out _ Tryz.underlying40 rfl Bas.size ?_) | (refine wpList_load_agg rfl 42 _ rfl ⟨w.heap.size + 1, 0, none⟩ rfl [.int .i64 p.kind, .int .i64 p.age, .int .i64 p.years, .int .i64 p.sum, .int .i64 p.load] hcY.out _ Tryz.underlying42 rfl Policy.size ?_))
    refine (impl_IsPolicy_any b A n cap p _ HT.out hp).mono ?_
    rw [h1]
    rintro e w1 ⟨rfl, hb⟩
    have HX1 := Lib.hid (HX.out.below' hb); have HY1 := Lib.hid (HY.out.below' hb); have HT1 := Lib.hid (HT.out.past hb)
    have HB1 := Lib.hid (hbw.trans (hb.mono hbw.size))
    clear HX HY HT hcX hcY hb hbw
    go_wp2
    go_ret2
    exact ⟨by rw [QV.out, Q.out]; rfl, HB1.out⟩
  cases h2 : inR prem 1 100000000
  · have Q := Lib.hid (show sumC b p prem = 2 by unfold sumC; rw [h1, h2]; rfl)
    have QV := Lib.hid (show sumV b p prem = 0 by unfold sumV; rw [Q.out]; rfl)
    go_enter Tryz.func19, Tryz.ntmps19
    go_upto_region 1 with (fail)
    generalize (w.alloc _).alloc _ = W at hbw HX HY HT ⊢
    have hcX := Lib.hid (Blk.agg (cs := [.int .i64 b.first, .slice A n cap, .int .i64 b.rate]) HX.out 0 [.int .i64 b.first, .slice A n cap, .int .i64 b.rate] rfl)
    have hcY := Lib.hid (Blk.agg (cs := [.int .i64 p.kind, .int .i64 p.age, .int .i64 p.years, .int .i64 p.sum, .int .i64 p.load]) HY.out 0 [.int .i64 p.kind, .int .i64 p.age, .int .i64 p.years, .int .i64 p.sum, .int .i64 p.load] rfl)
    go_wp2_with (first | (refine wpList_load_agg rfl 40 _ rfl ⟨w.heap.size, 0, none⟩ rfl [.int .i64 b.first, .slice A n cap, .int .i64 b.rate] hcX.out _ Tryz.underlying40 rfl Bas.size ?_) | (refine wpList_load_agg rfl 42 _ rfl ⟨w.heap.size + 1, 0, none⟩ rfl [.int .i64 p.kind, .int .i64 p.age, .int .i64 p.years, .int .i64 p.sum, .int .i64 p.load] hcY.out _ Tryz.underlying42 rfl Policy.size ?_))
    refine (impl_IsPolicy_any b A n cap p _ HT.out hp).mono ?_
    rw [h1]
    rintro e w1 ⟨rfl, hb⟩
    have HX1 := Lib.hid (HX.out.below' hb); have HY1 := Lib.hid (HY.out.below' hb); have HT1 := Lib.hid (HT.out.past hb)
    have HB1 := Lib.hid (hbw.trans (hb.mono hbw.size))
    clear HX HY HT hcX hcY hb hbw
    go_wp2_with (first | (go_at_call 50; refine (impl_inRange_any _ _ _ _).mono ?_; rintro e w' ⟨rfl, rfl⟩))
    go_ret2
    exact ⟨by rw [QV.out, Q.out]; rfl, HB1.out⟩
  have HSC := Lib.hid (show sumC b p prem = if sumP b p prem = 0 then 4 else 0 by unfold sumC; rw [h1, h2]; rfl)
  have HP1 := Lib.hid h1
  obtain ⟨r0, r1⟩ := inR_true.1 h2
  go_enter Tryz.func19, Tryz.ntmps19
  go_upto_region 1 with (fail)
  generalize (w.alloc _).alloc _ = W at hbw HX HY HT ⊢
  have hcX := Lib.hid (Blk.agg (cs := [.int .i64 b.first, .slice A n cap, .int .i64 b.rate]) HX.out 0 [.int .i64 b.first, .slice A n cap, .int .i64 b.rate] rfl)
  have hcY := Lib.hid (Blk.agg (cs := [.int .i64 p.kind, .int .i64 p.age, .int .i64 p.years, .int .i64 p.sum, .int .i64 p.load]) HY.out 0 [.int .i64 p.kind, .int .i64 p.age, .int .i64 p.years, .int .i64 p.sum, .int .i64 p.load] rfl)
  go_wp2_with (first | (refine wpList_load_agg rfl 40 _ rfl ⟨w.heap.size, 0, none⟩ rfl [.int .i64 b.first, .slice A n cap, .int .i64 b.rate] hcX.out _ Tryz.underlying40 rfl Bas.size ?_) | (refine wpList_load_agg rfl 42 _ rfl ⟨w.heap.size + 1, 0, none⟩ rfl [.int .i64 p.kind, .int .i64 p.age, .int .i64 p.years, .int .i64 p.sum, .int .i64 p.load] hcY.out _ Tryz.underlying42 rfl Policy.size ?_))
  refine (impl_IsPolicy_any b A n cap p _ HT.out hp).mono ?_
  rw [h1]
  rintro e w1 ⟨rfl, hb⟩
  have HX1 := Lib.hid (HX.out.below' hb); have HY1 := Lib.hid (HY.out.below' hb); have HT1 := Lib.hid (HT.out.past hb)
  have HB1 := Lib.hid (hbw.trans (hb.mono hbw.size))
  clear HX HY HT hcX hcY hb hbw HT1
  go_wp2_with (first | (go_at_call 50; refine (impl_inRange_any _ _ _ _).mono ?_; rintro e w' ⟨rfl, rfl⟩))
  clear h1 h2
  go_loopw [8, 9] (fun l h wr => ∃ lo hi m : Int, l = .int .i64 lo ∧ h = .int .i64 hi ∧ (0 ≤ lo ∧ lo ≤ hi ∧ hi ≤ 100000000) ∧ Hid (Sr (costB b p prem) lo hi) ∧ Hid (Blk wr w.heap.size 40 #[.int .i64 b.first, .slice A n cap, .int .i64 b.rate]) ∧ Hid (Blk wr (w.heap.size + 1) 42 #[.int .i64 p.kind, .int .i64 p.age, .int .i64 p.years, .int .i64 m, .int .i64 p.load]) ∧ Hid (Below w.heap.size w wr)) (fun l h _ => (intOf h - intOf l).toNat)
  case atStart => exact ⟨0, 100000000, p.sum, rfl, rfl, by omega, Lib.hid (Sr.start _), HX1, HY1, HB1⟩
  case round =>
    clear HX1 HY1 HB1
    obtain ⟨lo, hi, m, rfl, rfl, ⟨l0, l1, l2⟩, HSR, HX, HY, HB⟩ := hrel
    by_cases hlt : lo < hi
    · have z3 : wr.frozen? ⟨w.heap.size + 1, 3, none⟩ = false := HY.out.frozen 3
      have c3 : wr.cell? ⟨w.heap.size + 1, 3, none⟩ = some (.int .i64 m) := HY.out.cell 3
      obtain ⟨hs1, hs2⟩ := HSR.out.step hlt
      have HS1 := Lib.hid hs1; have HS2 := Lib.hid hs2
      clear hs1 hs2
      have hM1 : 1 ≤ (lo + hi + 1) / 2 ∧ (lo + hi + 1) / 2 ≤ 100000000 ∧ lo < (lo + hi + 1) / 2 ∧ (lo + hi + 1) / 2 ≤ hi := by omega
      have hdd : 0 ≤ lo + hi + 1 := by omega
      go_upto_region 8 with (fail)
      obtain ⟨M, hM⟩ : ∃ M, (lo + hi + 1) / 2 = M := ⟨_, rfl⟩
      rw [hM] at hM1 HS1 HS2 ⊢
      have HY2 : Hid (Blk (wr.setCell ⟨w.heap.size + 1, 3, none⟩ (.int .i64 M)) (w.heap.size + 1) 42 #[.int .i64 p.kind, .int .i64 p.age, .int .i64 p.years, .int .i64 M, .int .i64 p.load]) := Lib.hid (HY.out.set_ 3 (.int .i64 M))
      have HX2 := Lib.hid (HX.out.far (p := ⟨w.heap.size + 1, 3, none⟩) (by show w.heap.size ≠ w.heap.size + 1; omega) (.int .i64 M))
      have HB2 := Lib.hid (HB.out.setCell (p := ⟨w.heap.size + 1, 3, none⟩) (Nat.le_succ _) (.int .i64 M))
      generalize wr.setCell ⟨w.heap.size + 1, 3, none⟩ (.int .i64 M) = W2 at HX2 HY2 HB2 ⊢
      clear z3 c3 HX HY HB hM hdd HSR
      obtain ⟨M0, M1, M2, M3⟩ := hM1
      have HPM := Lib.hid (pol_at HP1.out M0 M1)
      have hcX := Lib.hid (Blk.agg (cs := [.int .i64 b.first, .slice A n cap, .int .i64 b.rate]) HX2.out 0 [.int .i64 b.first, .slice A n cap, .int .i64 b.rate] rfl)
      have hcY := Lib.hid (Blk.agg (cs := [.int .i64 p.kind, .int .i64 p.age, .int .i64 p.years, .int .i64 M, .int .i64 p.load]) HY2.out 0 [.int .i64 p.kind, .int .i64 p.age, .int .i64 p.years, .int .i64 M, .int .i64 p.load] rfl)
      go_wp2_with (first | (refine wpList_load_agg rfl 40 _ rfl ⟨w.heap.size, 0, none⟩ rfl [.int .i64 b.first, .slice A n cap, .int .i64 b.rate] hcX.out _ Tryz.underlying40 rfl Bas.size ?_) | (refine wpList_load_agg rfl 42 _ rfl ⟨w.heap.size + 1, 0, none⟩ rfl [.int .i64 p.kind, .int .i64 p.age, .int .i64 p.years, .int .i64 M, .int .i64 p.load] hcY.out _ Tryz.underlying42 rfl Policy.size ?_))
      refine (impl_officePremium_any b A n cap (p.at_ M) _ (HB0.out.past HB2.out) HPM.out).mono ?_
      rintro e w3 ⟨rfl, hb⟩
      have HX3 := Lib.hid (HX2.out.below' hb); have HY3 := Lib.hid (HY2.out.below' hb)
      have HB3 := Lib.hid (HB2.out.trans (hb.mono HB2.out.size))
      have c3 : w3.cell? ⟨w.heap.size + 1, 3, none⟩ = some (.int .i64 M) := HY3.out.cell 3
      clear hcX hcY hb HX2 HY2 HB2
      obtain ⟨of, hof⟩ : ∃ of, officeP b (p.at_ M) = of := ⟨_, rfl⟩
      rw [hof]
      by_cases hle : of ≤ prem
      · have HSN := Lib.hid (HS1.out (show costB b p prem M = true by unfold costB; rw [hof]; exact decide_eq_true hle))
        clear hof HS1 HS2
        go_wp2
        go_roundw
        case rel => exact ⟨M, hi, M, rfl, rfl, by omega, HSN, HX3, HY3, HB3⟩
        case measure => simp [intOf]; omega
      · have HSN := Lib.hid (HS2.out (show costB b p prem M = false by unfold costB; rw [hof]; exact decide_eq_false hle))
        clear hof HS1 HS2
        go_wp2
        go_roundw
        case rel => exact ⟨lo, M - 1, M, rfl, by go_num, by omega, HSN, HX3, HY3, HB3⟩
        case measure => simp [intOf]; omega
    · have e : hi = lo := by omega
      subst e
      have HF := Lib.hid (show sumP b p prem = hi from HSR.out.stop)
      rw [HF.out] at HSC
      by_cases hz : hi = 0
      · have Q := Lib.hid (show sumC b p prem = 4 by rw [HSC.out, if_pos hz])
        have QV := Lib.hid (show sumV b p prem = 0 by unfold sumV; rw [Q.out]; rfl)
        go_wp2
        go_ret2
        exact ⟨by rw [QV.out, Q.out]; rfl, HB.out⟩
      · have Q := Lib.hid (show sumC b p prem = 0 by rw [HSC.out, if_neg hz])
        have QV := Lib.hid (show sumV b p prem = hi by unfold sumV; rw [if_pos Q.out]; exact HF.out)
        go_wp2
        go_ret2
        exact ⟨by rw [QV.out, Q.out]; rfl, HB.out⟩

set_option maxHeartbeats 8000000 in
theorem spec_SumForPremium_any (b : Bas) (A : Option Addr) (n cap : Nat) (p : Policy) (prem : Int) (w : World) (hB : BasT w A n cap b) (hp : p.fits) :
    Calls Tryz.prog 20 #[.agg #[.int .i64 b.first, .slice A n cap, .int .i64 b.rate], .agg p.row.toArray, .int .i64 prem] w fun e w' => e = .returned (.tuple #[.int .i64 (sumV b p prem), .int .i64 (sumC b p prem)]) ∧ Below w.heap.size w w' := by
  unfold Policy.row
  have HB0 := Lib.hid hB
  obtain ⟨hbw, hX, hY, hz⟩ := two_boxes w [.int .i64 b.first, .slice A n cap, .int .i64 b.rate] [.int .i64 p.kind, .int .i64 p.age, .int .i64 p.years, .int .i64 p.sum, .int .i64 p.load] 40 42
  have HX := Lib.hid hX; have HY := Lib.hid hY
  have HT := Lib.hid (hB.past hbw); clear hB
  clear hX hY hz
  cases h1 : polB b p
  · have Q := Lib.hid (show sumC b p prem = 1 by unfold sumC; rw [h1]; rfl)
    have QV := Lib.hid (show sumV b p prem = 0 by unfold sumV; rw [Q.out]; rfl)
    go_enter Tryz.func20, Tryz.ntmps20
    go_upto_region 1 with (fail)
    generalize (w.alloc _).alloc _ = W at hbw HX HY HT ⊢
    have hcX := Lib.hid (Blk.agg (cs := [.int .i64 b.first, .slice A n cap, .int .i64 b.rate]) HX.out 0 [.int .i64 b.first, .slice A n cap, .int .i64 b.rate] rfl)
    have hcY := Lib.hid (Blk.agg (cs := [.int .i64 p.kind, .int .i64 p.age, .int .i64 p.years, .int .i64 p.sum, .int .i64 p.load]) HY.out 0 [.int .i64 p.kind, .int .i64 p.age, .int .i64 p.years, .int .i64 p.sum, .int .i64 p.load] rfl)
    go_wp2_with (first | (refine wpList_load_agg rfl 40 _ rfl ⟨w.heap.size, 0, none⟩ rfl [.int .i64 b.first, .slice A n cap, .int .i64 b.rate] hcX.out _ Tryz.underlying40 rfl Bas.size ?_) | (refine wpList_load_agg rfl 42 _ rfl ⟨w.heap.size + 1, 0, none⟩ rfl [.int .i64 p.kind, .int .i64 p.age, .int .i64 p.years, .int .i64 p.sum, .int .i64 p.load] hcY.out _ Tryz.underlying42 rfl Policy.size ?_))
    refine (spec_IsPolicy_any b A n cap p _ HT.out hp).mono ?_
    rw [h1]
    rintro e w1 ⟨rfl, hb⟩
    have HX1 := Lib.hid (HX.out.below' hb); have HY1 := Lib.hid (HY.out.below' hb); have HT1 := Lib.hid (HT.out.past hb)
    have HB1 := Lib.hid (hbw.trans (hb.mono hbw.size))
    clear HX HY HT hcX hcY hb hbw
    go_wp2
    go_ret2
    exact ⟨by rw [QV.out, Q.out]; rfl, HB1.out⟩
  cases h2 : inR prem 1 100000000
  · have Q := Lib.hid (show sumC b p prem = 2 by unfold sumC; rw [h1, h2]; rfl)
    have QV := Lib.hid (show sumV b p prem = 0 by unfold sumV; rw [Q.out]; rfl)
    go_enter Tryz.func20, Tryz.ntmps20
    go_upto_region 1 with (fail)
    generalize (w.alloc _).alloc _ = W at hbw HX HY HT ⊢
    have hcX := Lib.hid (Blk.agg (cs := [.int .i64 b.first, .slice A n cap, .int .i64 b.rate]) HX.out 0 [.int .i64 b.first, .slice A n cap, .int .i64 b.rate] rfl)
    have hcY := Lib.hid (Blk.agg (cs := [.int .i64 p.kind, .int .i64 p.age, .int .i64 p.years, .int .i64 p.sum, .int .i64 p.load]) HY.out 0 [.int .i64 p.kind, .int .i64 p.age, .int .i64 p.years, .int .i64 p.sum, .int .i64 p.load] rfl)
    go_wp2_with (first | (refine wpList_load_agg rfl 40 _ rfl ⟨w.heap.size, 0, none⟩ rfl [.int .i64 b.first, .slice A n cap, .int .i64 b.rate] hcX.out _ Tryz.underlying40 rfl Bas.size ?_) | (refine wpList_load_agg rfl 42 _ rfl ⟨w.heap.size + 1, 0, none⟩ rfl [.int .i64 p.kind, .int .i64 p.age, .int .i64 p.years, .int .i64 p.sum, .int .i64 p.load] hcY.out _ Tryz.underlying42 rfl Policy.size ?_))
    refine (spec_IsPolicy_any b A n cap p _ HT.out hp).mono ?_
    rw [h1]
    rintro e w1 ⟨rfl, hb⟩
    have HX1 := Lib.hid (HX.out.below' hb); have HY1 := Lib.hid (HY.out.below' hb); have HT1 := Lib.hid (HT.out.past hb)
    have HB1 := Lib.hid (hbw.trans (hb.mono hbw.size))
    clear HX HY HT hcX hcY hb hbw
    go_wp2_with (first | (go_at_call 57; refine (spec_l07Sum_any _ _).mono ?_; rintro e w' ⟨rfl, rfl⟩))
    go_ret2
    exact ⟨by rw [QV.out, Q.out]; rfl, HB1.out⟩
  have HSC := Lib.hid (show sumC b p prem = if sumP b p prem = 0 then 4 else 0 by unfold sumC; rw [h1, h2]; rfl)
  have HP1 := Lib.hid h1
  obtain ⟨r0, r1⟩ := inR_true.1 h2
  go_enter Tryz.func20, Tryz.ntmps20
  go_upto_region 1 with (fail)
  generalize (w.alloc _).alloc _ = W at hbw HX HY HT ⊢
  have hcX := Lib.hid (Blk.agg (cs := [.int .i64 b.first, .slice A n cap, .int .i64 b.rate]) HX.out 0 [.int .i64 b.first, .slice A n cap, .int .i64 b.rate] rfl)
  have hcY := Lib.hid (Blk.agg (cs := [.int .i64 p.kind, .int .i64 p.age, .int .i64 p.years, .int .i64 p.sum, .int .i64 p.load]) HY.out 0 [.int .i64 p.kind, .int .i64 p.age, .int .i64 p.years, .int .i64 p.sum, .int .i64 p.load] rfl)
  go_wp2_with (first | (refine wpList_load_agg rfl 40 _ rfl ⟨w.heap.size, 0, none⟩ rfl [.int .i64 b.first, .slice A n cap, .int .i64 b.rate] hcX.out _ Tryz.underlying40 rfl Bas.size ?_) | (refine wpList_load_agg rfl 42 _ rfl ⟨w.heap.size + 1, 0, none⟩ rfl [.int .i64 p.kind, .int .i64 p.age, .int .i64 p.years, .int .i64 p.sum, .int .i64 p.load] hcY.out _ Tryz.underlying42 rfl Policy.size ?_))
  refine (spec_IsPolicy_any b A n cap p _ HT.out hp).mono ?_
  rw [h1]
  rintro e w1 ⟨rfl, hb⟩
  have HX1 := Lib.hid (HX.out.below' hb); have HY1 := Lib.hid (HY.out.below' hb); have HT1 := Lib.hid (HT.out.past hb)
  have HB1 := Lib.hid (hbw.trans (hb.mono hbw.size))
  clear HX HY HT hcX hcY hb hbw HT1
  go_wp2_with (first | (go_at_call 57; refine (spec_l07Sum_any _ _).mono ?_; rintro e w' ⟨rfl, rfl⟩))
  clear h1 h2
  go_loopw [8, 9] (fun l h wr => ∃ lo hi m : Int, l = .int .i64 lo ∧ h = .int .i64 hi ∧ (0 ≤ lo ∧ lo ≤ hi ∧ hi ≤ 100000000) ∧ Hid (Sr (costB b p prem) lo hi) ∧ Hid (Blk wr w.heap.size 40 #[.int .i64 b.first, .slice A n cap, .int .i64 b.rate]) ∧ Hid (Blk wr (w.heap.size + 1) 42 #[.int .i64 p.kind, .int .i64 p.age, .int .i64 p.years, .int .i64 m, .int .i64 p.load]) ∧ Hid (Below w.heap.size w wr)) (fun l h _ => (intOf h - intOf l).toNat)
  case atStart => exact ⟨0, 100000000, p.sum, rfl, rfl, by omega, Lib.hid (Sr.start _), HX1, HY1, HB1⟩
  case round =>
    clear HX1 HY1 HB1
    obtain ⟨lo, hi, m, rfl, rfl, ⟨l0, l1, l2⟩, HSR, HX, HY, HB⟩ := hrel
    by_cases hlt : lo < hi
    · have z3 : wr.frozen? ⟨w.heap.size + 1, 3, none⟩ = false := HY.out.frozen 3
      have c3 : wr.cell? ⟨w.heap.size + 1, 3, none⟩ = some (.int .i64 m) := HY.out.cell 3
      obtain ⟨hs1, hs2⟩ := HSR.out.step hlt
      have HS1 := Lib.hid hs1; have HS2 := Lib.hid hs2
      clear hs1 hs2
      have hM1 : 1 ≤ (lo + hi + 1) / 2 ∧ (lo + hi + 1) / 2 ≤ 100000000 ∧ lo < (lo + hi + 1) / 2 ∧ (lo + hi + 1) / 2 ≤ hi := by omega
      have hdd : 0 ≤ lo + hi + 1 := by omega
      go_upto_region 8 with (fail)
      obtain ⟨M, hM⟩ : ∃ M, (lo + hi + 1) / 2 = M := ⟨_, rfl⟩
      rw [hM] at hM1 HS1 HS2 ⊢
      have HY2 : Hid (Blk (wr.setCell ⟨w.heap.size + 1, 3, none⟩ (.int .i64 M)) (w.heap.size + 1) 42 #[.int .i64 p.kind, .int .i64 p.age, .int .i64 p.years, .int .i64 M, .int .i64 p.load]) := Lib.hid (HY.out.set_ 3 (.int .i64 M))
      have HX2 := Lib.hid (HX.out.far (p := ⟨w.heap.size + 1, 3, none⟩) (by show w.heap.size ≠ w.heap.size + 1; omega) (.int .i64 M))
      have HB2 := Lib.hid (HB.out.setCell (p := ⟨w.heap.size + 1, 3, none⟩) (Nat.le_succ _) (.int .i64 M))
      generalize wr.setCell ⟨w.heap.size + 1, 3, none⟩ (.int .i64 M) = W2 at HX2 HY2 HB2 ⊢
      clear z3 c3 HX HY HB hM hdd HSR
      obtain ⟨M0, M1, M2, M3⟩ := hM1
      have HPM := Lib.hid (pol_at HP1.out M0 M1)
      have hcX := Lib.hid (Blk.agg (cs := [.int .i64 b.first, .slice A n cap, .int .i64 b.rate]) HX2.out 0 [.int .i64 b.first, .slice A n cap, .int .i64 b.rate] rfl)
      have hcY := Lib.hid (Blk.agg (cs := [.int .i64 p.kind, .int .i64 p.age, .int .i64 p.years, .int .i64 M, .int .i64 p.load]) HY2.out 0 [.int .i64 p.kind, .int .i64 p.age, .int .i64 p.years, .int .i64 M, .int .i64 p.load] rfl)
      go_wp2_with (first | (refine wpList_load_agg rfl 40 _ rfl ⟨w.heap.size, 0, none⟩ rfl [.int .i64 b.first, .slice A n cap, .int .i64 b.rate] hcX.out _ Tryz.underlying40 rfl Bas.size ?_) | (refine wpList_load_agg rfl 42 _ rfl ⟨w.heap.size + 1, 0, none⟩ rfl [.int .i64 p.kind, .int .i64 p.age, .int .i64 p.years, .int .i64 M, .int .i64 p.load] hcY.out _ Tryz.underlying42 rfl Policy.size ?_))
      refine (spec_l10Office_any b A n cap (p.at_ M) _ (HB0.out.past HB2.out) (pol_ok HPM.out)).mono ?_
      rintro e w3 ⟨rfl, hb⟩
      have HX3 := Lib.hid (HX2.out.below' hb); have HY3 := Lib.hid (HY2.out.below' hb)
      have HB3 := Lib.hid (HB2.out.trans (hb.mono HB2.out.size))
      have c3 : w3.cell? ⟨w.heap.size + 1, 3, none⟩ = some (.int .i64 M) := HY3.out.cell 3
      clear hcX hcY hb HX2 HY2 HB2
      obtain ⟨of, hof⟩ : ∃ of, officeP b (p.at_ M) = of := ⟨_, rfl⟩
      rw [hof]
      by_cases hle : of ≤ prem
      · have HSN := Lib.hid (HS1.out (show costB b p prem M = true by unfold costB; rw [hof]; exact decide_eq_true hle))
        clear hof HS1 HS2
        go_wp2
        go_roundw
        case rel => exact ⟨M, hi, M, rfl, rfl, by omega, HSN, HX3, HY3, HB3⟩
        case measure => simp [intOf]; omega
      · have HSN := Lib.hid (HS2.out (show costB b p prem M = false by unfold costB; rw [hof]; exact decide_eq_false hle))
        clear hof HS1 HS2
        go_wp2
        go_roundw
        case rel => exact ⟨lo, M - 1, M, rfl, by go_num, by omega, HSN, HX3, HY3, HB3⟩
        case measure => simp [intOf]; omega
    · have e : hi = lo := by omega
      subst e
      have HF := Lib.hid (show sumP b p prem = hi from HSR.out.stop)
      rw [HF.out] at HSC
      by_cases hz : hi = 0
      · have Q := Lib.hid (show sumC b p prem = 4 by rw [HSC.out, if_pos hz])
        have QV := Lib.hid (show sumV b p prem = 0 by unfold sumV; rw [Q.out]; rfl)
        go_wp2
        go_ret2
        exact ⟨by rw [QV.out, Q.out]; rfl, HB.out⟩
      · have Q := Lib.hid (show sumC b p prem = 0 by rw [HSC.out, if_neg hz])
        have QV := Lib.hid (show sumV b p prem = hi by unfold sumV; rw [if_pos Q.out]; exact HF.out)
        go_wp2
        go_ret2
        exact ⟨by rw [QV.out, Q.out]; rfl, HB.out⟩
end Go.Proofs.YtkdfdbcpbgganaaGreatDoor
end

/- Texts of whole numbers, apart by one byte: joined, cut, replaced. Plain. -/
section
namespace Go.Proofs.YtkdfdbcpbgganaaGreatDoor
open Go.RowKit Go.BigFrame

theorem itoa_neg {n : Int} (h : n < 0) : Lib.itoa n = 45 :: decL (-n) := by
  unfold Lib.itoa decL
  rw [if_pos h]
  congr 2
  omega
/-- a byte that sets numbers apart -/
def SepB (c : UInt8) : Prop := c.toNat < 45
theorem itoa_free {c : UInt8} (hc : SepB c) (n : Int) : c ∉ Lib.itoa n := by
  unfold SepB at hc
  by_cases h : n < 0
  · rw [itoa_neg h]
    intro hm
    rcases List.mem_cons.1 hm with hm | hm
    · rw [hm] at hc; revert hc; decide
    · exact digits_free (dec_digits _).1 (by omega) hm
  · rw [itoa_pos (by omega)]
    exact digits_free (dec_digits _).1 (by omega)
theorem decL_ne (n : Int) : decL n ≠ [] := by
  intro h
  have h1 := dec_pos n.toNat
  have h2 : decL n = Lib.decDigits n.toNat := rfl
  rw [← h2, h] at h1
  simp at h1
theorem decL_head {n : Int} {r : List UInt8} : decL n ≠ 45 :: r := by
  intro h
  have h1 := (dec_digits n.toNat).1 45 (by
    have h2 : decL n = Lib.decDigits n.toNat := rfl
    rw [← h2, h]; simp)
  revert h1; decide
theorem itoa_ne (n : Int) : Lib.itoa n ≠ [] := by
  by_cases h : n < 0
  · rw [itoa_neg h]; simp
  · rw [itoa_pos (by omega)]; exact decL_ne n
theorem itoa_inj {a b : Int} (h : Lib.itoa a = Lib.itoa b) : a = b := by
  by_cases ha : a < 0
  · by_cases hb : b < 0
    · rw [itoa_neg ha, itoa_neg hb] at h
      injection h with _ h
      have := decL_inj (by omega) (by omega) h
      omega
    · rw [itoa_neg ha, itoa_pos (by omega)] at h
      exact absurd h.symm decL_head
  · by_cases hb : b < 0
    · rw [itoa_neg hb, itoa_pos (by omega)] at h
      exact absurd h decL_head
    · rw [itoa_pos (by omega), itoa_pos (by omega)] at h
      exact decL_inj (by omega) (by omega) h
theorem itoa_len {n : Int} (h0 : -1000000000000000 ≤ n) (h1 : n ≤ 1000000000000000) : (Lib.itoa n).length ≤ 18 := by
  by_cases h : n < 0
  · rw [itoa_neg h]
    have := decL_len (n := -n) (by omega)
    simp only [List.length_cons]; omega
  · rw [itoa_pos (by omega)]
    have := decL_len (n := n) (by omega)
    omega
def intsL (c : UInt8) (ns : List Int) : List UInt8 := Lib.join (ns.map Lib.itoa) [c]
theorem cut_words {c : UInt8} : ∀ ws : List (List UInt8), ws ≠ [] → (∀ p ∈ ws, c ∉ p) → cutL c (Lib.join ws [c]) = ws
  | [], h, _ => absurd rfl h
  | [p], _, hf => by rw [join_one]; exact cutL_free (hf p (by simp))
  | p :: q :: r, _, hf => by
    have ih := cut_words (q :: r) (by simp) (fun x hx => hf x (by simp [hx]))
    rw [join_cons, List.append_assoc]
    show cutL c (p ++ c :: Lib.join (q :: r) [c]) = _
    rw [cutL_at _ (hf p (by simp)), ih]
theorem cut_ints {c : UInt8} (hc : SepB c) {ns : List Int} (h : ns ≠ []) : cutL c (intsL c ns) = ns.map Lib.itoa := by
  refine cut_words _ (by simpa using h) ?_
  intro p hp
  obtain ⟨n, _, rfl⟩ := List.mem_map.1 hp
  exact itoa_free hc n
theorem words_ints {c : UInt8} {l : List UInt8} {ns : List Int} (h : cutL c l = ns.map Lib.itoa) : l = intsL c ns := by
  rw [← join_cut c l, h]; rfl
theorem ints_one (c : UInt8) (n : Int) : intsL c [n] = Lib.itoa n := join_one _ _
theorem ints_len (c : UInt8) : ∀ ns : List Int, (∀ n ∈ ns, -1000000000000000 ≤ n ∧ n ≤ 1000000000000000) → (intsL c ns).length ≤ 19 * ns.length
  | [], _ => by simp [intsL, Lib.join, List.intercalate]
  | [n], h => by
    rw [ints_one]
    have := itoa_len (h n (by simp)).1 (h n (by simp)).2
    show _ ≤ 19 * 1; omega
  | n :: m :: r, h => by
    have ih := ints_len c (m :: r) (fun x hx => h x (by simp [hx]))
    have h1 := itoa_len (h n (by simp)).1 (h n (by simp)).2
    show (Lib.join (Lib.itoa n :: Lib.itoa m :: r.map Lib.itoa) [c]).length ≤ 19 * (r.length + 1 + 1)
    rw [join_cons]
    have ih2 : (Lib.join (Lib.itoa m :: r.map Lib.itoa) [c]).length ≤ 19 * (r.length + 1) := ih
    simp only [List.length_append, List.length_cons, List.length_nil]
    omega
theorem ints_snocL {c : UInt8} {ns : List Int} {n : Int} (h : ns ≠ []) : intsL c (ns ++ [n]) = intsL c ns ++ [c] ++ Lib.itoa n := by
  unfold intsL
  rw [List.map_append]
  exact join_snoc _ _ _ (by simpa using h)
theorem ints_take {c : UInt8} {xs : List Int} {k : Nat} {x : Int} (h : xs[k]? = some x) (hk : 0 < k) : intsL c (xs.take (k + 1)) = intsL c (xs.take k) ++ [c] ++ Lib.itoa x := by
  rw [List.take_add_one, h, Option.toList_some]
  refine ints_snocL ?_
  intro h0
  have h1 := congrArg List.length h0
  have h2 := (List.getElem?_eq_some_iff.1 h).1
  rw [List.length_take] at h1
  simp only [List.length_nil] at h1
  omega
theorem ints_take0 {c : UInt8} {xs : List Int} {x : Int} (h : xs[0]? = some x) : intsL c (xs.take 1) = Lib.itoa x := by
  rw [List.take_add_one, h, Option.toList_some]
  exact ints_one c x
theorem ints_size {c : UInt8} {xs : List Int} (hn : xs.length ≤ 130) (hb : ∀ x ∈ xs, -1000000000000000 ≤ x ∧ x ≤ 1000000000000000) (k : Nat) : (S (intsL c (xs.take k))).size ≤ 3000 := by
  rw [S_size]
  have h1 := ints_len c (xs.take k) (fun n hx => hb n (List.mem_of_mem_take hx))
  rw [List.length_take] at h1
  omega
/-- one byte becomes another -/
theorem replaceK_join (c d : UInt8) : ∀ (k : Nat) (l : List UInt8), k = l.count c → Lib.replaceK [c] [d] k l = Lib.join (cutL c l) [d]
  | 0, l, h => by
    have : c ∉ l := List.count_eq_zero.1 h.symm
    rw [cutL_free this, join_one]; rfl
  | k + 1, l, h => by
    rcases index_one c l with ⟨h1, _⟩ | ⟨a, b, rfl, h2, h3⟩
    · rw [List.count_eq_zero.2 h1] at h; omega
    · have h4 : k = b.count c := by
        simp only [List.count_append, List.count_cons_self, List.count_eq_zero.2 h2] at h; omega
      rw [Lib.replaceK_hit _ _ _ _ _ h3, cutL_at b h2]
      have e2 : (a ++ c :: b).drop (a.length + [c].length) = b := by simp
      have e3 : (a ++ c :: b).take a.length = a := by simp
      rw [e2, e3, replaceK_join c d k b h4]
      match hc : cutL c b with
      | [] => exact absurd hc (cutL_ne c b)
      | p :: r => rw [join_cons]
theorem replaceAll_join {c d : UInt8} (hcd : c ≠ d) (l : List UInt8) : Lib.replaceAll l [c] [d] = Lib.join (cutL c l) [d] := by
  unfold Lib.replaceAll Lib.replace
  rw [if_neg (by simpa using hcd)]
  have hn : Lib.replaceNum l [c] (-1) = l.count c := by
    unfold Lib.replaceNum
    rw [if_pos (.inl (by omega)), Lib.count_one]
  rw [hn, replaceK_join c d _ l rfl]
theorem replace_ints {ns : List Int} (h : ns ≠ []) : Lib.replaceAll (intsL 32 ns) [32] [44] = intsL 44 ns := by
  rw [replaceAll_join (by decide), cut_ints (show SepB 32 by unfold SepB; decide) h]; rfl
end Go.Proofs.YtkdfdbcpbgganaaGreatDoor
end
