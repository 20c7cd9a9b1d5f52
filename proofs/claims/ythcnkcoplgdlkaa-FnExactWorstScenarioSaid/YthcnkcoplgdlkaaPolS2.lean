/- Premiums, reserves and their codes: the reference's contracts. -/
import Derived.Test.YthcnkcoplgdlkaaPolS
import Derived.Test.YthcnkcoplgdlkaaMinus
namespace Go.Proofs.Ythcnkcoplgdlkaa
open Go.RowKit Go.BigFrame
theorem polRow_size : (Policy.row ⟨0, 0, 0, 0, 0⟩).length = 5 := rfl


set_option maxHeartbeats 2000000 in
theorem spec_l10Net_any (b : Bas) (A : Option Addr) (n cap : Nat) (p : Policy) (w : World) (hB : BasT w A n cap b) (P : PolOk b p) :
    Calls Try.prog 125 #[.agg #[.int .i64 b.first, .slice A n cap, .int .i64 b.rate], .agg p.row.toArray] w fun e w' => e = .returned (.int .i64 (netP b p)) ∧ Below w.heap.size w w' := by
  have hbw := boxes_below (w := w) (X := b.row A n cap) (Y := p.row) (tx := 32) (ty := 44)
  have HB := Lib.hid ((Blk.new w 32 (b.row A n cap).toArray).alloc (.cells p.row.toArray 44))
  have HP := Lib.hid (Blk.new (w.alloc (.cells (b.row A n cap).toArray 32)) 44 p.row.toArray)
  rw [World.size_alloc] at HP
  unfold Bas.row Policy.row at *
  have HBT := Lib.hid (hB.past hbw); clear hB
  have Q := Lib.hid (show netP b p = upP p.sum (topF b.lives b.rate p.kind (p.age - b.first).toNat p.years.toNat) (baseF b.lives b.rate p.kind (p.age - b.first).toNat p.years.toNat) from rfl)
  have hd := d_age P
  unfold Bas.d Bas.ix at hd
  have a1 := P.age0; have a2 := P.age1; have y1 := P.yrs0; have y2 := P.yrs1; have s1 := P.sum0; have s2 := P.sum1
  have HPO := Lib.hid P; clear P
  go_enter Try.func125, Try.ntmps125
  go_wp2_with fail
  refine (spec_l07Level_any b.first A n cap b.lives b.rate p.kind p.age p.years p.sum _ HBT.out.lives HPO.out.tab ⟨HPO.out.rate0, HPO.out.rate1⟩ ⟨by omega, by omega⟩ ⟨by omega, by omega⟩ ⟨by omega, by omega⟩ (kind_or HPO.out) hd).mono ?_
  rintro e w1 ⟨rfl, hb1⟩
  go_wp2
  go_ret
  exact ⟨by rw [Q.out]; rfl, hbw.trans (hb1.mono hbw.size)⟩


set_option maxHeartbeats 2000000 in
theorem spec_l10Office_any (b : Bas) (A : Option Addr) (n cap : Nat) (p : Policy) (w : World) (hB : BasT w A n cap b) (P : PolOk b p) :
    Calls Try.prog 126 #[.agg #[.int .i64 b.first, .slice A n cap, .int .i64 b.rate], .agg p.row.toArray] w fun e w' => e = .returned (.int .i64 (officeP b p)) ∧ Below w.heap.size w w' := by
  have hbw := boxes_below (w := w) (X := b.row A n cap) (Y := p.row) (tx := 32) (ty := 44)
  have HB := Lib.hid ((Blk.new w 32 (b.row A n cap).toArray).alloc (.cells p.row.toArray 44))
  have HP := Lib.hid (Blk.new (w.alloc (.cells (b.row A n cap).toArray 32)) 44 p.row.toArray)
  rw [World.size_alloc] at HP
  unfold Bas.row Policy.row at *
  have HBT := Lib.hid (hB.past hbw); clear hB
  have Q := Lib.hid (show officeP b p = netP b p + ceilDiv (netP b p * p.load) 1000 from rfl)
  obtain ⟨o1, o2, o3, o4⟩ := office_bound P
  obtain ⟨n1, n2⟩ := net_bound P
  have hcd := ceil_bound o1
  obtain ⟨e1, e2⟩ := hcd
  have HPO := Lib.hid P; clear P
  go_enter Try.func126, Try.ntmps126
  go_wp2_with fail
  refine (spec_l10Net_any b A n cap p _ HBT.out HPO.out).mono ?_
  rintro e w1 ⟨rfl, hb1⟩
  have HB1 := Lib.hid (HB.out.below' hb1)
  have HP1 := Lib.hid (HP.out.below' hb1)
  have cp4 : w1.cell? ⟨w.heap.size + 1, 4, none⟩ = some (.int .i64 p.load) := HP1.out.cell 4
  go_wp2_with (first | (go_at_call 183; refine (spec_l01Up_any _ _ _ (by omega) (by omega) (by omega) (by omega)).mono ?_; rintro e w' ⟨rfl, rfl⟩))
  go_ret
  exact ⟨by rw [Q.out]; rfl, hbw.trans (hb1.mono hbw.size)⟩


set_option maxHeartbeats 2000000 in
theorem spec_l10Duration_any (b : Bas) (A : Option Addr) (n cap : Nat) (p : Policy) (w : World) (hB : BasT w A n cap b) (P : PolOk b p) :
    Calls Try.prog 107 #[.agg #[.int .i64 b.first, .slice A n cap, .int .i64 b.rate], .agg p.row.toArray] w fun e w' => e = .returned (.int .i64 (durP b p)) ∧ Below w.heap.size w w' := by
  have hbw := boxes_below (w := w) (X := b.row A n cap) (Y := p.row) (tx := 32) (ty := 44)
  have HB := Lib.hid ((Blk.new w 32 (b.row A n cap).toArray).alloc (.cells p.row.toArray 44))
  have HP := Lib.hid (Blk.new (w.alloc (.cells (b.row A n cap).toArray 32)) 44 p.row.toArray)
  rw [World.size_alloc] at HP
  unfold Bas.row Policy.row at *
  have HBT := Lib.hid (hB.past hbw); clear hB
  have f1 := P.tab.first0; have f2 := P.tab.first1; have l2 := P.tab.len1; have a1 := P.age0; have a2 := P.age1
  have hn := HBT.out.lives.small
  have HL := Lib.hid HBT.out.lives.len
  rw [HL.out] at l2
  clear P
  by_cases hk : p.kind = 0
  · have Q := Lib.hid (show durP b p = b.first + (n : Int) - 1 - p.age by unfold durP Bas.last; rw [if_pos hk, HL.out])
    have hkb : (p.kind == 0) = true := by simp [hk]
    clear hk
    have hcT := Lib.hid (Blk.agg_past (cs := [.int .i64 b.first, .slice A n cap, .int .i64 b.rate]) HB.out 0 [.int .i64 b.first, .slice A n cap] rfl)
    have hcB := Lib.hid (Blk.agg_past (cs := [.int .i64 b.first, .slice A n cap, .int .i64 b.rate]) HB.out 0 [.int .i64 b.first, .slice A n cap, .int .i64 b.rate] rfl)
    have hcP := Lib.hid (Blk.agg_past (cs := [.int .i64 p.kind, .int .i64 p.age, .int .i64 p.years, .int .i64 p.sum, .int .i64 p.load]) HP.out 0 [.int .i64 p.kind, .int .i64 p.age, .int .i64 p.years, .int .i64 p.sum, .int .i64 p.load] rfl)
    have db2 := fun y : Past ((w.alloc (.cells #[.int .i64 b.first, .slice A n cap, .int .i64 b.rate] 32)).alloc (.cells #[.int .i64 p.kind, .int .i64 p.age, .int .i64 p.years, .int .i64 p.sum, .int .i64 p.load] 44)) => Past.cell (p := ⟨w.heap.size, 2, none⟩) (v := .int .i64 b.rate) (HB.out.cell 2) y
    have dp0 := fun y : Past ((w.alloc (.cells #[.int .i64 b.first, .slice A n cap, .int .i64 b.rate] 32)).alloc (.cells #[.int .i64 p.kind, .int .i64 p.age, .int .i64 p.years, .int .i64 p.sum, .int .i64 p.load] 44)) => Past.cell (p := ⟨w.heap.size + 1, 0, none⟩) (v := .int .i64 p.kind) (HP.out.cell 0) y
    have dp1 := fun y : Past ((w.alloc (.cells #[.int .i64 b.first, .slice A n cap, .int .i64 b.rate] 32)).alloc (.cells #[.int .i64 p.kind, .int .i64 p.age, .int .i64 p.years, .int .i64 p.sum, .int .i64 p.load] 44)) => Past.cell (p := ⟨w.heap.size + 1, 1, none⟩) (v := .int .i64 p.age) (HP.out.cell 1) y
    have dp2 := fun y : Past ((w.alloc (.cells #[.int .i64 b.first, .slice A n cap, .int .i64 b.rate] 32)).alloc (.cells #[.int .i64 p.kind, .int .i64 p.age, .int .i64 p.years, .int .i64 p.sum, .int .i64 p.load] 44)) => Past.cell (p := ⟨w.heap.size + 1, 2, none⟩) (v := .int .i64 p.years) (HP.out.cell 2) y
    have dp3 := fun y : Past ((w.alloc (.cells #[.int .i64 b.first, .slice A n cap, .int .i64 b.rate] 32)).alloc (.cells #[.int .i64 p.kind, .int .i64 p.age, .int .i64 p.years, .int .i64 p.sum, .int .i64 p.load] 44)) => Past.cell (p := ⟨w.heap.size + 1, 3, none⟩) (v := .int .i64 p.sum) (HP.out.cell 3) y
    have dp4 := fun y : Past ((w.alloc (.cells #[.int .i64 b.first, .slice A n cap, .int .i64 b.rate] 32)).alloc (.cells #[.int .i64 p.kind, .int .i64 p.age, .int .i64 p.years, .int .i64 p.sum, .int .i64 p.load] 44)) => Past.cell (p := ⟨w.heap.size + 1, 4, none⟩) (v := .int .i64 p.load) (HP.out.cell 4) y
    go_enter Try.func107, Try.ntmps107
    go_wp2
    refine wp_region_past (by kernel_rfl) (by kernel_rfl) ?_
    repeat (first | (go_big_quiet_want; (first | (refine quiet_load_agg 30 _ rfl ⟨w.heap.size, 0, none⟩ rfl [.int .i64 b.first, .slice A n cap] hcT.out _ Try.underlying30 rfl Tab.size ?_)); go_simp; go_big_quiet_on) | go_big_quiet_step ((go_at_call 174; exact past_call (spec_l03End_any b.first A n cap _ hn ⟨by omega, by omega⟩))))
    refine wpQuiet_nil ?_
    rintro _ ⟨y, rfl⟩
    go_wp2
    go_ret
    exact ⟨by rw [Q.out]; rfl, hbw.trans (y.2.mono hbw.size)⟩
  · have Q := Lib.hid (show durP b p = p.years by unfold durP; rw [if_neg hk])
    go_enter Try.func107, Try.ntmps107
    go_wp2
    go_ret
    exact ⟨by rw [Q.out]; rfl, hbw⟩


theorem spec_l11Left_any (p : Policy) (k : Int) (w : World) (hk : 0 ≤ k ∧ k ≤ 1000) (hy : 0 ≤ p.years ∧ p.years ≤ 120) :
    Calls Try.prog 164 #[.agg p.row.toArray, .int .i64 k] w fun e w' => e = .returned (.int .i64 (leftP p k)) ∧ Below w.heap.size w w' := by
  have hbw : Below w.heap.size w (w.alloc (.cells p.row.toArray 44)) := (Below.refl _ w).alloc (Nat.le_refl _) _
  unfold Policy.row at *
  obtain ⟨k1, k2⟩ := hk
  obtain ⟨y1, y2⟩ := hy
  by_cases h0 : p.kind = 0
  · have Q := Lib.hid (show leftP p k = 0 by unfold leftP; rw [if_pos h0])
    have hkb : (p.kind == 0) = true := by simp [h0]
    clear h0
    go_enter Try.func164, Try.ntmps164
    go_wp2
    go_ret
    exact ⟨by rw [Q.out]; rfl, hbw⟩
  · have Q := Lib.hid (show leftP p k = p.years - k by unfold leftP; rw [if_neg h0])
    go_enter Try.func164, Try.ntmps164
    go_wp2
    go_ret
    exact ⟨by rw [Q.out]; rfl, hbw⟩

theorem year_facts {b : Bas} {p : Policy} {k : Int} (Y : YearOk b p k) : (0 ≤ leftP p k ∧ leftP p k ≤ 120) ∧ b.first ≤ p.age + k ∧ p.age + k ≤ 300 ∧ k ≤ 150 := by
  have h1 := left_bound Y.toPolOk Y.k0
  have h2 := dur_bound Y.toPolOk
  have := Y.k1; have := Y.k0; have := Y.age0; have := Y.age1; have := Y.yrs0
  refine ⟨⟨?_, h1⟩, by omega, by omega, by omega⟩
  have h3 := Y.k1
  unfold leftP
  unfold durP at h3
  split
  · omega
  · rename_i h; rw [if_neg h] at h3; omega


set_option maxHeartbeats 4000000 in
theorem spec_l11Parts_any (b : Bas) (A : Option Addr) (n cap : Nat) (p : Policy) (k : Int) (w : World) (hB : BasT w A n cap b) (Y : YearOk b p k) :
    Calls Try.prog 96 #[.agg #[.int .i64 b.first, .slice A n cap, .int .i64 b.rate], .agg p.row.toArray, .int .i64 k] w fun e w' => e = .returned (.tuple #[.int .i64 (partT b p k), .int .i64 (partB b p k), .int .i64 (partD b p k)]) ∧ Below w.heap.size w w' := by
  have hbw := boxes_below (w := w) (X := b.row A n cap) (Y := p.row) (tx := 32) (ty := 44)
  have HB := Lib.hid ((Blk.new w 32 (b.row A n cap).toArray).alloc (.cells p.row.toArray 44))
  have HP := Lib.hid (Blk.new (w.alloc (.cells (b.row A n cap).toArray 32)) 44 p.row.toArray)
  rw [World.size_alloc] at HP
  unfold Bas.row Policy.row at *
  have HBT := Lib.hid (hB.past hbw); clear hB
  have Q1 := Lib.hid (show partT b p k = topF b.lives b.rate p.kind (p.age + k - b.first).toNat (leftP p k).toNat from rfl)
  have Q2 := Lib.hid (show partB b p k = baseF b.lives b.rate p.kind (p.age + k - b.first).toNat (leftP p k).toNat from rfl)
  have Q3 := Lib.hid (show partD b p k = dC b.lives b.rate (p.age + k - b.first).toNat from rfl)
  obtain ⟨⟨f1, f2⟩, f3, f4, f5⟩ := year_facts Y
  have k0 := Y.k0; have y1 := Y.yrs0; have y2 := Y.yrs1; have a1 := Y.age0; have a2 := Y.age1; have t0 := Y.tab.first0
  have HY := Lib.hid Y; clear Y
  go_enter Try.func96, Try.ntmps96
  go_wp2_with fail
  refine (spec_l11Left_any p k _ ⟨by omega, by omega⟩ ⟨by omega, by omega⟩).mono ?_
  rintro e w1 ⟨rfl, hb1⟩
  have HB1 := Lib.hid (HB.out.below' hb1)
  have HP1 := Lib.hid (HP.out.below' hb1)
  have HBT1 := Lib.hid (HBT.out.past hb1)
  have hbw1 := hbw.trans (hb1.mono hbw.size)
  have hcT := Lib.hid (Blk.agg_past (cs := [.int .i64 b.first, .slice A n cap, .int .i64 b.rate]) HB1.out 0 [.int .i64 b.first, .slice A n cap] rfl)
  have hcB := Lib.hid (Blk.agg_past (cs := [.int .i64 b.first, .slice A n cap, .int .i64 b.rate]) HB1.out 0 [.int .i64 b.first, .slice A n cap, .int .i64 b.rate] rfl)
  have hcP := Lib.hid (Blk.agg_past (cs := [.int .i64 p.kind, .int .i64 p.age, .int .i64 p.years, .int .i64 p.sum, .int .i64 p.load]) HP1.out 0 [.int .i64 p.kind, .int .i64 p.age, .int .i64 p.years, .int .i64 p.sum, .int .i64 p.load] rfl)
  have db2 := fun y : Past w1 => Past.cell (p := ⟨w.heap.size, 2, none⟩) (v := .int .i64 b.rate) (HB1.out.cell 2) y
  have dp0 := fun y : Past w1 => Past.cell (p := ⟨w.heap.size + 1, 0, none⟩) (v := .int .i64 p.kind) (HP1.out.cell 0) y
  have dp1 := fun y : Past w1 => Past.cell (p := ⟨w.heap.size + 1, 1, none⟩) (v := .int .i64 p.age) (HP1.out.cell 1) y
  have dp2 := fun y : Past w1 => Past.cell (p := ⟨w.heap.size + 1, 2, none⟩) (v := .int .i64 p.years) (HP1.out.cell 2) y
  have dp3 := fun y : Past w1 => Past.cell (p := ⟨w.heap.size + 1, 3, none⟩) (v := .int .i64 p.sum) (HP1.out.cell 3) y
  have dp4 := fun y : Past w1 => Past.cell (p := ⟨w.heap.size + 1, 4, none⟩) (v := .int .i64 p.load) (HP1.out.cell 4) y
  go_wp2
  refine wp_region_past (by kernel_rfl) (by kernel_rfl) ?_
  repeat (first | (go_big_quiet_want; (first | (refine quiet_load_agg 30 _ rfl ⟨w.heap.size, 0, none⟩ rfl [.int .i64 b.first, .slice A n cap] hcT.out _ Try.underlying30 rfl Tab.size ?_)); go_simp; go_big_quiet_on) | go_big_quiet_step ((first | (go_at_call 132; exact past_call (spec_l07Top_any b.first A n cap b.lives b.rate p.kind (p.age + k) (leftP p k) _ (HBT1.out.lives.at_past _) HY.out.tab ⟨HY.out.rate0, HY.out.rate1⟩ ⟨by omega, by omega⟩ ⟨by omega, by omega⟩)) | (go_at_call 165; exact past_call (spec_l07Base_any b.first A n cap b.lives b.rate p.kind (p.age + k) (leftP p k) _ (HBT1.out.lives.at_past _) HY.out.tab ⟨HY.out.rate0, HY.out.rate1⟩ ⟨by omega, by omega⟩ ⟨by omega, by omega⟩)) | (go_at_call 108; exact past_call (spec_l05D_any b.first A n cap b.lives b.rate (p.age + k) _ (HBT1.out.lives.at_past _) HY.out.tab ⟨HY.out.rate0, HY.out.rate1⟩ ⟨by omega, by omega⟩)))))
  refine wpQuiet_nil ?_
  rintro _ ⟨y, rfl⟩
  go_wp2
  go_ret3
  exact ⟨by rw [Q1.out, Q2.out, Q3.out]; rfl, hbw1.trans (y.2.mono hbw1.size)⟩


set_option maxHeartbeats 4000000 in
theorem spec_l11Forward_any (b : Bas) (A : Option Addr) (n cap : Nat) (p : Policy) (k : Int) (w : World) (hB : BasT w A n cap b) (Y : YearOk b p k) :
    Calls Try.prog 166 #[.agg #[.int .i64 b.first, .slice A n cap, .int .i64 b.rate], .agg p.row.toArray, .int .i64 k] w fun e w' => e = .returned (.tuple #[.int .i64 (fwdP p.sum (partT b p k) (netP b p) (partB b p k) (partD b p k)).1, .int .i64 (fwdP p.sum (partT b p k) (netP b p) (partB b p k) (partD b p k)).2]) ∧ Below w.heap.size w w' := by
  have hbw := boxes_below (w := w) (X := b.row A n cap) (Y := p.row) (tx := 32) (ty := 44)
  have HB := Lib.hid ((Blk.new w 32 (b.row A n cap).toArray).alloc (.cells p.row.toArray 44))
  have HP := Lib.hid (Blk.new (w.alloc (.cells (b.row A n cap).toArray 32)) 44 p.row.toArray)
  rw [World.size_alloc] at HP
  unfold Bas.row Policy.row at *
  have HBT := Lib.hid (hB.past hbw); clear hB
  have HK := Lib.hid (part_ok Y (net_bound Y.toPolOk))
  have HQ := Lib.hid (part_quo HK.out)
  have HY := Lib.hid Y; clear Y
  obtain ⟨n1, n2⟩ := net_bound HY.out.toPolOk
  have q1 := HK.out.s0; have q2 := HK.out.s1; have q3 := HK.out.t0; have q4 := HK.out.t1; have q5 := HK.out.v0; have q6 := HK.out.v1; have q7 := HK.out.d0; have q8 := HK.out.d1
  go_enter Try.func166, Try.ntmps166
  go_wp2_with fail
  refine (spec_l11Parts_any b A n cap p k _ HBT.out HY.out).mono ?_
  rintro e w1 ⟨rfl, hb1⟩
  have HB1 := Lib.hid (HB.out.below' hb1)
  have HP1 := Lib.hid (HP.out.below' hb1)
  have HBT1 := Lib.hid (HBT.out.past hb1)
  have hbw1 := hbw.trans (hb1.mono hbw.size)
  have hcT := Lib.hid (Blk.agg_past (cs := [.int .i64 b.first, .slice A n cap, .int .i64 b.rate]) HB1.out 0 [.int .i64 b.first, .slice A n cap] rfl)
  have hcB := Lib.hid (Blk.agg_past (cs := [.int .i64 b.first, .slice A n cap, .int .i64 b.rate]) HB1.out 0 [.int .i64 b.first, .slice A n cap, .int .i64 b.rate] rfl)
  have hcP := Lib.hid (Blk.agg_past (cs := [.int .i64 p.kind, .int .i64 p.age, .int .i64 p.years, .int .i64 p.sum, .int .i64 p.load]) HP1.out 0 [.int .i64 p.kind, .int .i64 p.age, .int .i64 p.years, .int .i64 p.sum, .int .i64 p.load] rfl)
  have db2 := fun y : Past w1 => Past.cell (p := ⟨w.heap.size, 2, none⟩) (v := .int .i64 b.rate) (HB1.out.cell 2) y
  have dp0 := fun y : Past w1 => Past.cell (p := ⟨w.heap.size + 1, 0, none⟩) (v := .int .i64 p.kind) (HP1.out.cell 0) y
  have dp1 := fun y : Past w1 => Past.cell (p := ⟨w.heap.size + 1, 1, none⟩) (v := .int .i64 p.age) (HP1.out.cell 1) y
  have dp2 := fun y : Past w1 => Past.cell (p := ⟨w.heap.size + 1, 2, none⟩) (v := .int .i64 p.years) (HP1.out.cell 2) y
  have dp3 := fun y : Past w1 => Past.cell (p := ⟨w.heap.size + 1, 3, none⟩) (v := .int .i64 p.sum) (HP1.out.cell 3) y
  have dp4 := fun y : Past w1 => Past.cell (p := ⟨w.heap.size + 1, 4, none⟩) (v := .int .i64 p.load) (HP1.out.cell 4) y
  go_wp2
  refine wp_region_past (by kernel_rfl) (by kernel_rfl) ?_
  repeat (first | (go_big_quiet_want; (first | (first | (refine quiet_load_agg 32 _ rfl ⟨w.heap.size, 0, none⟩ rfl [.int .i64 b.first, .slice A n cap, .int .i64 b.rate] hcB.out _ Try.underlying32 rfl Bas.size ?_) | (refine quiet_load_agg 44 _ rfl ⟨w.heap.size + 1, 0, none⟩ rfl [.int .i64 p.kind, .int .i64 p.age, .int .i64 p.years, .int .i64 p.sum, .int .i64 p.load] hcP.out _ Try.underlying44 rfl Policy.size ?_))); go_simp; go_big_quiet_on) | go_big_quiet_step ((first | (go_at_call 125; exact past_call (spec_l10Net_any b A n cap p _ (HBT1.out.at_past _) HY.out.toPolOk)) | (go_at_call 188; exact past_same (spec_l10Minus_any p.sum (partT b p k) (netP b p) (partB b p k) (partD b p k) _ ⟨by omega, by omega⟩ ⟨by omega, by omega⟩ ⟨by omega, by omega⟩ ⟨by omega, by omega⟩ ⟨by omega, by omega⟩ (by have := HQ.out; omega) (by have := HQ.out; omega))))))
  refine wpQuiet_nil ?_
  rintro _ ⟨y, rfl⟩
  go_wp2
  go_ret2
  exact ⟨rfl, hbw1.trans (y.2.mono hbw1.size)⟩


set_option maxHeartbeats 2000000 in
theorem spec_l11At_any (b : Bas) (A : Option Addr) (n cap : Nat) (p : Policy) (k : Int) (w : World) (hB : BasT w A n cap b) (Y : YearOk b p k) :
    Calls Try.prog 99 #[.agg #[.int .i64 b.first, .slice A n cap, .int .i64 b.rate], .agg p.row.toArray, .int .i64 k] w fun e w' => e = .returned (.int .i64 (resAt b p k)) ∧ Below w.heap.size w w' := by
  have hbw := boxes_below (w := w) (X := b.row A n cap) (Y := p.row) (tx := 32) (ty := 44)
  have HB := Lib.hid ((Blk.new w 32 (b.row A n cap).toArray).alloc (.cells p.row.toArray 44))
  have HP := Lib.hid (Blk.new (w.alloc (.cells (b.row A n cap).toArray 32)) 44 p.row.toArray)
  rw [World.size_alloc] at HP
  unfold Bas.row Policy.row at *
  have HBT := Lib.hid (hB.past hbw); clear hB
  have HK := Lib.hid (part_ok Y (net_bound Y.toPolOk))
  have HF := Lib.hid (fwd_bound HK.out)
  have HY := Lib.hid Y; clear Y
  have QR := Lib.hid (show resAt b p k = roundP (fwdP p.sum (partT b p k) (netP b p) (partB b p k) (partD b p k)) from rfl)
  have d8 := HK.out.d1
  obtain ⟨F, hF⟩ : ∃ F, fwdP p.sum (partT b p k) (netP b p) (partB b p k) (partD b p k) = F := ⟨_, rfl⟩
  rw [hF] at HF QR
  have HFF := Lib.hid hF; clear hF
  obtain ⟨⟨g1, g2⟩, g3, g4⟩ := HF.out
  rw [QR.out]
  unfold roundP
  obtain ⟨F1, F2⟩ := F
  simp only at g1 g2 g3 g4 ⊢
  by_cases hr : 0 < F2
  · rw [if_pos hr]
    have hmn : min 1 F2 = 1 := by omega
    have hr1 : 1 ≤ F2 := hr
    obtain ⟨m, hm⟩ : ∃ m, max 0 (F1 + 1) = m := ⟨_, rfl⟩
    have HM := Lib.hid hm
    go_enter Try.func99, Try.ntmps99
    go_wp2_with fail
    refine (spec_l11Forward_any b A n cap p k _ HBT.out HY.out).mono ?_
    rw [HFF.out]
    rintro e w1 ⟨rfl, hb1⟩
    go_wp2
    all_goals (go_ret; exact ⟨by first | rfl | (rw [HM.out]; rfl) | (congr 2; omega) | (simp; omega), hbw.trans (hb1.mono hbw.size)⟩)
  · rw [if_neg hr]
    have hr1 : F2 = 0 := by omega
    subst hr1
    go_enter Try.func99, Try.ntmps99
    go_wp2_with fail
    refine (spec_l11Forward_any b A n cap p k _ HBT.out HY.out).mono ?_
    rw [HFF.out]
    rintro e w1 ⟨rfl, hb1⟩
    go_wp2
    all_goals (go_ret; exact ⟨by first | rfl | (congr 2; omega) | (simp; omega), hbw.trans (hb1.mono hbw.size)⟩)

end Go.Proofs.Ythcnkcoplgdlkaa
