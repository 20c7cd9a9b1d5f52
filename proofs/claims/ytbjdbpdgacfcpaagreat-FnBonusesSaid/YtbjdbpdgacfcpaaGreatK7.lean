/- Parts of a proof, one after another: PolS2, PolI. No condition. -/
import Derived.Test.YtbjdbpdgacfcpaaGreatK4
import Derived.Test.YtbjdbpdgacfcpaaGreatK6
/- Premiums, reserves and their codes: the reference's contracts. -/
section
namespace Go.Proofs.YtbjdbpdgacfcpaaGreat
open Go.RowKit Go.BigFrame
theorem polRow_size : (Policy.row ⟨0, 0, 0, 0, 0⟩).length = 5 := rfl


set_option maxHeartbeats 2000000 in
theorem spec_l10Net_any (b : Bas) (A : Option Addr) (n cap : Nat) (p : Policy) (w : World) (hB : BasT w A n cap b) (P : PolOk b p) :
    Calls Tryz.prog 144 #[.agg #[.int .i64 b.first, .slice A n cap, .int .i64 b.rate], .agg p.row.toArray] w fun e w' => e = .returned (.int .i64 (netP b p)) ∧ Below w.heap.size w w' := by
  have hbw := boxes_below (w := w) (X := b.row A n cap) (Y := p.row) (tx := 28) (ty := 88)
  have HB := Lib.hid ((Blk.new w 28 (b.row A n cap).toArray).alloc (.cells p.row.toArray 88))
  have HP := Lib.hid (Blk.new (w.alloc (.cells (b.row A n cap).toArray 28)) 88 p.row.toArray)
  rw [World.size_alloc] at HP
  unfold Bas.row Policy.row at *
  have HBT := Lib.hid (hB.past hbw); clear hB
  have Q := Lib.hid (show netP b p = upP p.sum (topF b.lives b.rate p.kind (p.age - b.first).toNat p.years.toNat) (baseF b.lives b.rate p.kind (p.age - b.first).toNat p.years.toNat) from rfl)
  have hd := d_age P
  unfold Bas.d Bas.ix at hd
  have a1 := P.age0; have a2 := P.age1; have y1 := P.yrs0; have y2 := P.yrs1; have s1 := P.sum0; have s2 := P.sum1
  have HPO := Lib.hid P; clear P
  go_enter Tryz.func144, Tryz.ntmps144
  go_wp2_with fail
  refine (spec_l07Level_any b.first A n cap b.lives b.rate p.kind p.age p.years p.sum _ HBT.out.lives HPO.out.tab ⟨HPO.out.rate0, HPO.out.rate1⟩ ⟨by omega, by omega⟩ ⟨by omega, by omega⟩ ⟨by omega, by omega⟩ (kind_or HPO.out) hd).mono ?_
  rintro e w1 ⟨rfl, hb1⟩
  go_wp2
  go_ret
  exact ⟨by rw [Q.out]; rfl, hbw.trans (hb1.mono hbw.size)⟩


set_option maxHeartbeats 2000000 in
theorem spec_l10Duration_any (b : Bas) (A : Option Addr) (n cap : Nat) (p : Policy) (w : World) (hB : BasT w A n cap b) (P : PolOk b p) :
    Calls Tryz.prog 136 #[.agg #[.int .i64 b.first, .slice A n cap, .int .i64 b.rate], .agg p.row.toArray] w fun e w' => e = .returned (.int .i64 (durP b p)) ∧ Below w.heap.size w w' := by
  have hbw := boxes_below (w := w) (X := b.row A n cap) (Y := p.row) (tx := 28) (ty := 88)
  have HB := Lib.hid ((Blk.new w 28 (b.row A n cap).toArray).alloc (.cells p.row.toArray 88))
  have HP := Lib.hid (Blk.new (w.alloc (.cells (b.row A n cap).toArray 28)) 88 p.row.toArray)
  rw [World.size_alloc] at HP
  unfold Bas.row Policy.row at *
  have HBT := Lib.hid (hB.past hbw); clear hB
  have f1 := P.tab.first0; have f2 := P.tab.first1; have l2 := P.tab.len1; have a1 := P.age0; have a2 := P.age1
  have hn := HBT.out.lives.small
  have HL := Lib.hid HBT.out.lives.len
  rw [HL.out] at l2
  clear P
  by_cases hk : p.kind = 0
  · have Q := Lib.hid (show durP b p = b.first + (n : Int) - 1 - p.age by unfold durP Bas.last; rw [if_pos hk, HL.out])
    have hkb : (p.kind == 0) = true := by simp [hk]
    clear hk
    have hcT := Lib.hid (Blk.agg_past (cs := [.int .i64 b.first, .slice A n cap, .int .i64 b.rate]) HB.out 0 [.int .i64 b.first, .slice A n cap] rfl)
    have hcB := Lib.hid (Blk.agg_past (cs := [.int .i64 b.first, .slice A n cap, .int .i64 b.rate]) HB.out 0 [.int .i64 b.first, .slice A n cap, .int .i64 b.rate] rfl)
    have hcP := Lib.hid (Blk.agg_past (cs := [.int .i64 p.kind, .int .i64 p.age, .int .i64 p.years, .int .i64 p.sum, .int .i64 p.load]) HP.out 0 [.int .i64 p.kind, .int .i64 p.age, .int .i64 p.years, .int .i64 p.sum, .int .i64 p.load] rfl)
    have db2 := fun y : Past ((w.alloc (.cells #[.int .i64 b.first, .slice A n cap, .int .i64 b.rate] 28)).alloc (.cells #[.int .i64 p.kind, .int .i64 p.age, .int .i64 p.years, .int .i64 p.sum, .int .i64 p.load] 88)) => Past.cell (p := ⟨w.heap.size, 2, none⟩) (v := .int .i64 b.rate) (HB.out.cell 2) y
    have dp0 := fun y : Past ((w.alloc (.cells #[.int .i64 b.first, .slice A n cap, .int .i64 b.rate] 28)).alloc (.cells #[.int .i64 p.kind, .int .i64 p.age, .int .i64 p.years, .int .i64 p.sum, .int .i64 p.load] 88)) => Past.cell (p := ⟨w.heap.size + 1, 0, none⟩) (v := .int .i64 p.kind) (HP.out.cell 0) y
    have dp1 := fun y : Past ((w.alloc (.cells #[.int .i64 b.first, .slice A n cap, .int .i64 b.rate] 28)).alloc (.cells #[.int .i64 p.kind, .int .i64 p.age, .int .i64 p.years, .int .i64 p.sum, .int .i64 p.load] 88)) => Past.cell (p := ⟨w.heap.size + 1, 1, none⟩) (v := .int .i64 p.age) (HP.out.cell 1) y
    have dp2 := fun y : Past ((w.alloc (.cells #[.int .i64 b.first, .slice A n cap, .int .i64 b.rate] 28)).alloc (.cells #[.int .i64 p.kind, .int .i64 p.age, .int .i64 p.years, .int .i64 p.sum, .int .i64 p.load] 88)) => Past.cell (p := ⟨w.heap.size + 1, 2, none⟩) (v := .int .i64 p.years) (HP.out.cell 2) y
    have dp3 := fun y : Past ((w.alloc (.cells #[.int .i64 b.first, .slice A n cap, .int .i64 b.rate] 28)).alloc (.cells #[.int .i64 p.kind, .int .i64 p.age, .int .i64 p.years, .int .i64 p.sum, .int .i64 p.load] 88)) => Past.cell (p := ⟨w.heap.size + 1, 3, none⟩) (v := .int .i64 p.sum) (HP.out.cell 3) y
    have dp4 := fun y : Past ((w.alloc (.cells #[.int .i64 b.first, .slice A n cap, .int .i64 b.rate] 28)).alloc (.cells #[.int .i64 p.kind, .int .i64 p.age, .int .i64 p.years, .int .i64 p.sum, .int .i64 p.load] 88)) => Past.cell (p := ⟨w.heap.size + 1, 4, none⟩) (v := .int .i64 p.load) (HP.out.cell 4) y
    go_enter Tryz.func136, Tryz.ntmps136
    go_wp2
    refine wp_region_past (by kernel_rfl) (by kernel_rfl) ?_
    repeat (first | (go_big_quiet_want; (first | (refine quiet_load_agg 26 _ rfl ⟨w.heap.size, 0, none⟩ rfl [.int .i64 b.first, .slice A n cap] hcT.out _ Tryz.underlying26 rfl Tab.size ?_)); go_simp; go_big_quiet_on) | go_big_quiet_step ((go_at_call 167; exact past_call (spec_l03End_any b.first A n cap _ hn ⟨by omega, by omega⟩))))
    refine wpQuiet_nil ?_
    rintro _ ⟨y, rfl⟩
    go_wp2
    go_ret
    exact ⟨by rw [Q.out]; rfl, hbw.trans (y.2.mono hbw.size)⟩
  · have Q := Lib.hid (show durP b p = p.years by unfold durP; rw [if_neg hk])
    go_enter Tryz.func136, Tryz.ntmps136
    go_wp2
    go_ret
    exact ⟨by rw [Q.out]; rfl, hbw⟩


theorem spec_l11Left_any (p : Policy) (k : Int) (w : World) (hk : 0 ≤ k ∧ k ≤ 1000) (hy : 0 ≤ p.years ∧ p.years ≤ 120) :
    Calls Tryz.prog 177 #[.agg p.row.toArray, .int .i64 k] w fun e w' => e = .returned (.int .i64 (leftP p k)) ∧ Below w.heap.size w w' := by
  have hbw : Below w.heap.size w (w.alloc (.cells p.row.toArray 88)) := (Below.refl _ w).alloc (Nat.le_refl _) _
  unfold Policy.row at *
  obtain ⟨k1, k2⟩ := hk
  obtain ⟨y1, y2⟩ := hy
  by_cases h0 : p.kind = 0
  · have Q := Lib.hid (show leftP p k = 0 by unfold leftP; rw [if_pos h0])
    have hkb : (p.kind == 0) = true := by simp [h0]
    clear h0
    go_enter Tryz.func177, Tryz.ntmps177
    go_wp2
    go_ret
    exact ⟨by rw [Q.out]; rfl, hbw⟩
  · have Q := Lib.hid (show leftP p k = p.years - k by unfold leftP; rw [if_neg h0])
    go_enter Tryz.func177, Tryz.ntmps177
    go_wp2
    go_ret
    exact ⟨by rw [Q.out]; rfl, hbw⟩

theorem year_facts {b : Bas} {p : Policy} {k : Int} (Y : YearOk b p k) : (0 ≤ leftP p k ∧ leftP p k ≤ 120) ∧ b.first ≤ p.age + k ∧ p.age + k ≤ 300 ∧ k ≤ 150 := by
  have h1 := left_bound Y.toPolOk Y.k0
  have h2 := dur_bound Y.toPolOk
  have := Y.k1; have := Y.k0; have := Y.age0; have := Y.age1; have := Y.yrs0
  refine ⟨⟨?_, h1⟩, by omega, by omega, by omega⟩
  have h3 := Y.k1
  unfold leftP
  unfold durP at h3
  split
  · omega
  · rename_i h; rw [if_neg h] at h3; omega


set_option maxHeartbeats 4000000 in
theorem spec_l11Parts_any (b : Bas) (A : Option Addr) (n cap : Nat) (p : Policy) (k : Int) (w : World) (hB : BasT w A n cap b) (Y : YearOk b p k) :
    Calls Tryz.prog 142 #[.agg #[.int .i64 b.first, .slice A n cap, .int .i64 b.rate], .agg p.row.toArray, .int .i64 k] w fun e w' => e = .returned (.tuple #[.int .i64 (partT b p k), .int .i64 (partB b p k), .int .i64 (partD b p k)]) ∧ Below w.heap.size w w' := by
  have hbw := boxes_below (w := w) (X := b.row A n cap) (Y := p.row) (tx := 28) (ty := 88)
  have HB := Lib.hid ((Blk.new w 28 (b.row A n cap).toArray).alloc (.cells p.row.toArray 88))
  have HP := Lib.hid (Blk.new (w.alloc (.cells (b.row A n cap).toArray 28)) 88 p.row.toArray)
  rw [World.size_alloc] at HP
  unfold Bas.row Policy.row at *
  have HBT := Lib.hid (hB.past hbw); clear hB
  have Q1 := Lib.hid (show partT b p k = topF b.lives b.rate p.kind (p.age + k - b.first).toNat (leftP p k).toNat from rfl)
  have Q2 := Lib.hid (show partB b p k = baseF b.lives b.rate p.kind (p.age + k - b.first).toNat (leftP p k).toNat from rfl)
  have Q3 := Lib.hid (show partD b p k = dC b.lives b.rate (p.age + k - b.first).toNat from rfl)
  obtain ⟨⟨f1, f2⟩, f3, f4, f5⟩ := year_facts Y
  have k0 := Y.k0; have y1 := Y.yrs0; have y2 := Y.yrs1; have a1 := Y.age0; have a2 := Y.age1; have t0 := Y.tab.first0
  have HY := Lib.hid Y; clear Y
  go_enter Tryz.func142, Tryz.ntmps142
  go_wp2_with fail
  refine (spec_l11Left_any p k _ ⟨by omega, by omega⟩ ⟨by omega, by omega⟩).mono ?_
  rintro e w1 ⟨rfl, hb1⟩
  have HB1 := Lib.hid (HB.out.below' hb1)
  have HP1 := Lib.hid (HP.out.below' hb1)
  have HBT1 := Lib.hid (HBT.out.past hb1)
  have hbw1 := hbw.trans (hb1.mono hbw.size)
  have hcT := Lib.hid (Blk.agg_past (cs := [.int .i64 b.first, .slice A n cap, .int .i64 b.rate]) HB1.out 0 [.int .i64 b.first, .slice A n cap] rfl)
  have hcB := Lib.hid (Blk.agg_past (cs := [.int .i64 b.first, .slice A n cap, .int .i64 b.rate]) HB1.out 0 [.int .i64 b.first, .slice A n cap, .int .i64 b.rate] rfl)
  have hcP := Lib.hid (Blk.agg_past (cs := [.int .i64 p.kind, .int .i64 p.age, .int .i64 p.years, .int .i64 p.sum, .int .i64 p.load]) HP1.out 0 [.int .i64 p.kind, .int .i64 p.age, .int .i64 p.years, .int .i64 p.sum, .int .i64 p.load] rfl)
  have db2 := fun y : Past w1 => Past.cell (p := ⟨w.heap.size, 2, none⟩) (v := .int .i64 b.rate) (HB1.out.cell 2) y
  have dp0 := fun y : Past w1 => Past.cell (p := ⟨w.heap.size + 1, 0, none⟩) (v := .int .i64 p.kind) (HP1.out.cell 0) y
  have dp1 := fun y : Past w1 => Past.cell (p := ⟨w.heap.size + 1, 1, none⟩) (v := .int .i64 p.age) (HP1.out.cell 1) y
  have dp2 := fun y : Past w1 => Past.cell (p := ⟨w.heap.size + 1, 2, none⟩) (v := .int .i64 p.years) (HP1.out.cell 2) y
  have dp3 := fun y : Past w1 => Past.cell (p := ⟨w.heap.size + 1, 3, none⟩) (v := .int .i64 p.sum) (HP1.out.cell 3) y
  have dp4 := fun y : Past w1 => Past.cell (p := ⟨w.heap.size + 1, 4, none⟩) (v := .int .i64 p.load) (HP1.out.cell 4) y
  go_wp2
  refine wp_region_past (by kernel_rfl) (by kernel_rfl) ?_
  repeat (first | (go_big_quiet_want; (first | (refine quiet_load_agg 26 _ rfl ⟨w.heap.size, 0, none⟩ rfl [.int .i64 b.first, .slice A n cap] hcT.out _ Tryz.underlying26 rfl Tab.size ?_)); go_simp; go_big_quiet_on) | go_big_quiet_step ((first | (go_at_call 178; exact past_call (spec_l07Top_any b.first A n cap b.lives b.rate p.kind (p.age + k) (leftP p k) _ (HBT1.out.lives.at_past _) HY.out.tab ⟨HY.out.rate0, HY.out.rate1⟩ ⟨by omega, by omega⟩ ⟨by omega, by omega⟩)) | (go_at_call 179; exact past_call (spec_l07Base_any b.first A n cap b.lives b.rate p.kind (p.age + k) (leftP p k) _ (HBT1.out.lives.at_past _) HY.out.tab ⟨HY.out.rate0, HY.out.rate1⟩ ⟨by omega, by omega⟩ ⟨by omega, by omega⟩)) | (go_at_call 170; exact past_call (spec_l05D_any b.first A n cap b.lives b.rate (p.age + k) _ (HBT1.out.lives.at_past _) HY.out.tab ⟨HY.out.rate0, HY.out.rate1⟩ ⟨by omega, by omega⟩)))))
  refine wpQuiet_nil ?_
  rintro _ ⟨y, rfl⟩
  go_wp2
  go_ret3
  exact ⟨by rw [Q1.out, Q2.out, Q3.out]; rfl, hbw1.trans (y.2.mono hbw1.size)⟩


set_option maxHeartbeats 4000000 in
theorem spec_l11Forward_any (b : Bas) (A : Option Addr) (n cap : Nat) (p : Policy) (k : Int) (w : World) (hB : BasT w A n cap b) (Y : YearOk b p k) :
    Calls Tryz.prog 183 #[.agg #[.int .i64 b.first, .slice A n cap, .int .i64 b.rate], .agg p.row.toArray, .int .i64 k] w fun e w' => e = .returned (.tuple #[.int .i64 (fwdP p.sum (partT b p k) (netP b p) (partB b p k) (partD b p k)).1, .int .i64 (fwdP p.sum (partT b p k) (netP b p) (partB b p k) (partD b p k)).2]) ∧ Below w.heap.size w w' := by
  have hbw := boxes_below (w := w) (X := b.row A n cap) (Y := p.row) (tx := 28) (ty := 88)
  have HB := Lib.hid ((Blk.new w 28 (b.row A n cap).toArray).alloc (.cells p.row.toArray 88))
  have HP := Lib.hid (Blk.new (w.alloc (.cells (b.row A n cap).toArray 28)) 88 p.row.toArray)
  rw [World.size_alloc] at HP
  unfold Bas.row Policy.row at *
  have HBT := Lib.hid (hB.past hbw); clear hB
  have HK := Lib.hid (part_ok Y (net_bound Y.toPolOk))
  have HQ := Lib.hid (part_quo HK.out)
  have HY := Lib.hid Y; clear Y
  obtain ⟨n1, n2⟩ := net_bound HY.out.toPolOk
  have q1 := HK.out.s0; have q2 := HK.out.s1; have q3 := HK.out.t0; have q4 := HK.out.t1; have q5 := HK.out.v0; have q6 := HK.out.v1; have q7 := HK.out.d0; have q8 := HK.out.d1
  go_enter Tryz.func183, Tryz.ntmps183
  go_wp2_with fail
  refine (spec_l11Parts_any b A n cap p k _ HBT.out HY.out).mono ?_
  rintro e w1 ⟨rfl, hb1⟩
  have HB1 := Lib.hid (HB.out.below' hb1)
  have HP1 := Lib.hid (HP.out.below' hb1)
  have HBT1 := Lib.hid (HBT.out.past hb1)
  have hbw1 := hbw.trans (hb1.mono hbw.size)
  have hcT := Lib.hid (Blk.agg_past (cs := [.int .i64 b.first, .slice A n cap, .int .i64 b.rate]) HB1.out 0 [.int .i64 b.first, .slice A n cap] rfl)
  have hcB := Lib.hid (Blk.agg_past (cs := [.int .i64 b.first, .slice A n cap, .int .i64 b.rate]) HB1.out 0 [.int .i64 b.first, .slice A n cap, .int .i64 b.rate] rfl)
  have hcP := Lib.hid (Blk.agg_past (cs := [.int .i64 p.kind, .int .i64 p.age, .int .i64 p.years, .int .i64 p.sum, .int .i64 p.load]) HP1.out 0 [.int .i64 p.kind, .int .i64 p.age, .int .i64 p.years, .int .i64 p.sum, .int .i64 p.load] rfl)
  have db2 := fun y : Past w1 => Past.cell (p := ⟨w.heap.size, 2, none⟩) (v := .int .i64 b.rate) (HB1.out.cell 2) y
  have dp0 := fun y : Past w1 => Past.cell (p := ⟨w.heap.size + 1, 0, none⟩) (v := .int .i64 p.kind) (HP1.out.cell 0) y
  have dp1 := fun y : Past w1 => Past.cell (p := ⟨w.heap.size + 1, 1, none⟩) (v := .int .i64 p.age) (HP1.out.cell 1) y
  have dp2 := fun y : Past w1 => Past.cell (p := ⟨w.heap.size + 1, 2, none⟩) (v := .int .i64 p.years) (HP1.out.cell 2) y
  have dp3 := fun y : Past w1 => Past.cell (p := ⟨w.heap.size + 1, 3, none⟩) (v := .int .i64 p.sum) (HP1.out.cell 3) y
  have dp4 := fun y : Past w1 => Past.cell (p := ⟨w.heap.size + 1, 4, none⟩) (v := .int .i64 p.load) (HP1.out.cell 4) y
  go_wp2
  refine wp_region_past (by kernel_rfl) (by kernel_rfl) ?_
  repeat (first | (go_big_quiet_want; (first | (first | (refine quiet_load_agg 28 _ rfl ⟨w.heap.size, 0, none⟩ rfl [.int .i64 b.first, .slice A n cap, .int .i64 b.rate] hcB.out _ Tryz.underlying28 rfl Bas.size ?_) | (refine quiet_load_agg 88 _ rfl ⟨w.heap.size + 1, 0, none⟩ rfl [.int .i64 p.kind, .int .i64 p.age, .int .i64 p.years, .int .i64 p.sum, .int .i64 p.load] hcP.out _ Tryz.underlying88 rfl Policy.size ?_))); go_simp; go_big_quiet_on) | go_big_quiet_step ((first | (go_at_call 144; exact past_call (spec_l10Net_any b A n cap p _ (HBT1.out.at_past _) HY.out.toPolOk)) | (go_at_call 143; exact past_same (spec_l10Minus_any p.sum (partT b p k) (netP b p) (partB b p k) (partD b p k) _ ⟨by omega, by omega⟩ ⟨by omega, by omega⟩ ⟨by omega, by omega⟩ ⟨by omega, by omega⟩ ⟨by omega, by omega⟩ (by have := HQ.out; omega) (by have := HQ.out; omega))))))
  refine wpQuiet_nil ?_
  rintro _ ⟨y, rfl⟩
  go_wp2
  go_ret2
  exact ⟨rfl, hbw1.trans (y.2.mono hbw1.size)⟩


set_option maxHeartbeats 2000000 in
theorem spec_l11At_any (b : Bas) (A : Option Addr) (n cap : Nat) (p : Policy) (k : Int) (w : World) (hB : BasT w A n cap b) (Y : YearOk b p k) :
    Calls Tryz.prog 150 #[.agg #[.int .i64 b.first, .slice A n cap, .int .i64 b.rate], .agg p.row.toArray, .int .i64 k] w fun e w' => e = .returned (.int .i64 (resAt b p k)) ∧ Below w.heap.size w w' := by
  have hbw := boxes_below (w := w) (X := b.row A n cap) (Y := p.row) (tx := 28) (ty := 88)
  have HB := Lib.hid ((Blk.new w 28 (b.row A n cap).toArray).alloc (.cells p.row.toArray 88))
  have HP := Lib.hid (Blk.new (w.alloc (.cells (b.row A n cap).toArray 28)) 88 p.row.toArray)
  rw [World.size_alloc] at HP
  unfold Bas.row Policy.row at *
  have HBT := Lib.hid (hB.past hbw); clear hB
  have HK := Lib.hid (part_ok Y (net_bound Y.toPolOk))
  have HF := Lib.hid (fwd_bound HK.out)
  have HY := Lib.hid Y; clear Y
  have QR := Lib.hid (show resAt b p k = roundP (fwdP p.sum (partT b p k) (netP b p) (partB b p k) (partD b p k)) from rfl)
  have d8 := HK.out.d1
  obtain ⟨F, hF⟩ : ∃ F, fwdP p.sum (partT b p k) (netP b p) (partB b p k) (partD b p k) = F := ⟨_, rfl⟩
  rw [hF] at HF QR
  have HFF := Lib.hid hF; clear hF
  obtain ⟨⟨g1, g2⟩, g3, g4⟩ := HF.out
  rw [QR.out]
  unfold roundP
  obtain ⟨F1, F2⟩ := F
  simp only at g1 g2 g3 g4 ⊢
  by_cases hr : 0 < F2
  · rw [if_pos hr]
    have hmn : min 1 F2 = 1 := by omega
    have hr1 : 1 ≤ F2 := hr
    obtain ⟨m, hm⟩ : ∃ m, max 0 (F1 + 1) = m := ⟨_, rfl⟩
    have HM := Lib.hid hm
    go_enter Tryz.func150, Tryz.ntmps150
    go_wp2_with fail
    refine (spec_l11Forward_any b A n cap p k _ HBT.out HY.out).mono ?_
    rw [HFF.out]
    rintro e w1 ⟨rfl, hb1⟩
    go_wp2
    all_goals (go_ret; exact ⟨by first | rfl | (rw [HM.out]; rfl) | (congr 2; omega) | (simp; omega), hbw.trans (hb1.mono hbw.size)⟩)
  · rw [if_neg hr]
    have hr1 : F2 = 0 := by omega
    subst hr1
    go_enter Tryz.func150, Tryz.ntmps150
    go_wp2_with fail
    refine (spec_l11Forward_any b A n cap p k _ HBT.out HY.out).mono ?_
    rw [HFF.out]
    rintro e w1 ⟨rfl, hb1⟩
    go_wp2
    all_goals (go_ret; exact ⟨by first | rfl | (congr 2; omega) | (simp; omega), hbw.trans (hb1.mono hbw.size)⟩)

end Go.Proofs.YtbjdbpdgacfcpaaGreat
end

/- Values of assurances, whether policies are valid, premiums: the program's contracts. -/
section
namespace Go.Proofs.YtbjdbpdgacfcpaaGreat
open Go.RowKit Go.BigFrame

theorem impl_IsBasis_any (b : Bas) (A : Option Addr) (n cap : Nat) (w : World) (hB : BasT w A n cap b) :
    Calls Tryz.prog 20 #[.agg #[.int .i64 b.first, .slice A n cap, .int .i64 b.rate]] w fun e w' => e = .returned (.bool (basisB b)) ∧ Below w.heap.size w w' := by
  have hbw : Below w.heap.size w (w.alloc (.cells #[.int .i64 b.first, .slice A n cap, .int .i64 b.rate] 28)) := (Below.refl _ w).alloc (Nat.le_refl _) _
  have HB := Lib.hid (Blk.new w 28 #[.int .i64 b.first, .slice A n cap, .int .i64 b.rate])
  have HBT := Lib.hid (hB.past hbw); clear hB
  cases h1 : tableB b.first b.lives
  · have Q := Lib.hid (show basisB b = false by simp [basisB, h1])
    go_enter Tryz.func20, Tryz.ntmps20
    go_wp2_with fail
    refine (impl_IsLifeTable_any b.first A n cap b.lives _ HBT.out.lives HBT.out.cap HBT.out.first).mono ?_
    rw [h1]
    rintro e w1 ⟨rfl, hb1⟩
    go_wp2
    go_ret
    exact ⟨by rw [Q.out]; rfl, hbw.trans (hb1.mono (by simp))⟩
  · have Q := Lib.hid (show basisB b = inR b.rate 0 200 by simp [basisB, h1])
    go_enter Tryz.func20, Tryz.ntmps20
    go_wp2_with fail
    refine (impl_IsLifeTable_any b.first A n cap b.lives _ HBT.out.lives HBT.out.cap HBT.out.first).mono ?_
    rw [h1]
    rintro e w1 ⟨rfl, hb1⟩
    have c2 : w1.cell? ⟨w.heap.size, 2, none⟩ = some (.int .i64 b.rate) := (HB.out.below' hb1).cell 2
    go_wp2_with (first | (go_at_call 88; refine (impl_isRate_any _ _).mono ?_; rintro e w' ⟨rfl, rfl⟩))
    go_ret
    exact ⟨by rw [Q.out]; rfl, hbw.trans (hb1.mono (by simp))⟩

set_option maxHeartbeats 1000000 in
theorem impl_Basis_at_any (b : Bas) (A : Option Addr) (n cap : Nat) (L : Option Addr) (top lc : Nat) (age : Int) (w : World) (hR : Rd w w.heap.size L 4 (colRows b.lives b.rate top)) (hf : 0 ≤ b.first ∧ b.first ≤ 100) (ha : b.first ≤ age ∧ age ≤ 1000) (hk : b.ix age < top) (ht : top ≤ 1000) :
    Calls Tryz.prog 171 #[.agg #[.int .i64 b.first, .slice A n cap, .int .i64 b.rate], .slice L top lc, .int .i64 age] w fun e w' => e = .returned (.agg (colRow b.lives b.rate (b.ix age)).toArray) ∧ Below w.heap.size w w' := by
  have hbw : Below w.heap.size w ((w.alloc (.cells #[.int .i64 b.first, .slice A n cap, .int .i64 b.rate] 28)).alloc (.cells #[.int .i64 0, .int .i64 0, .int .i64 0, .int .i64 0] 170)) := ((Below.refl _ w).alloc (Nat.le_refl _) _).alloc (by simp) _
  obtain ⟨a1, a2⟩ := ha
  obtain ⟨f1, f2⟩ := hf
  obtain ⟨k, hk'⟩ := Int.eq_ofNat_of_zero_le (show 0 ≤ age - b.first by omega)
  have HE := Lib.hid (show b.ix age = k by unfold Bas.ix; omega)
  rw [HE.out] at hk ⊢
  have hki : (k : Int) < (top : Int) := by omega
  obtain ⟨ad, rfl, had, _, hc⟩ := hR.at' (colRows_get hk)
  have Hc := Lib.hid (fun j v hv => (hbw.cell (p := (ad.add (k * 4)).add j) (by rw [block_of_add, block_of_add]; exact had)).trans (hc j v hv)); clear hc hR
  go_enter Tryz.func171, Tryz.ntmps171
  go_wp2_with (refine wpList_load_agg rfl 170 _ rfl (ad.add (k * 4)) rfl (colRow b.lives b.rate k) Hc.out _ Tryz.underlying170 rfl Columns.size ?_)
  refine bodyPost_ret (v := .agg (colRow b.lives b.rate k).toArray) (by simp [results, Tryz.results171, go_sem]) rfl ⟨rfl, ?_⟩
  repeat (first | exact Below.refl _ _ | refine Below.alloc ?_ (by simp <;> omega) _ | refine Below.setCell ?_ (by simp <;> omega) _ | refine Below.drew ?_)

set_option maxHeartbeats 1000000 in
theorem impl_isAssurance_any (b : Bas) (A : Option Addr) (n cap : Nat) (kind age yrs sum : Int) (w : World) (hf : 0 ≤ b.first ∧ b.first ≤ 100) :
    Calls Tryz.prog 193 #[.agg #[.int .i64 b.first, .slice A n cap], .int .i64 b.rate, .int .i64 kind, .int .i64 age, .int .i64 yrs, .int .i64 sum] w fun e w' => e = .returned (.bool (assurB b kind age yrs sum)) ∧ Below w.heap.size w w' := by
  have hbw : Below w.heap.size w (w.alloc (.cells #[.int .i64 b.first, .slice A n cap] 26)) := (Below.refl _ w).alloc (Nat.le_refl _) _
  obtain ⟨f1, f2⟩ := hf
  have QE := Lib.hid (show (decide (yrs = 0) == decide (kind = 0)) = ((yrs == 0) == (kind == 0)) from rfl)
  cases h1 : inR kind 0 3
  · have Q := Lib.hid (show assurB b kind age yrs sum = false by simp [assurB, h1])
    go_enter Tryz.func193, Tryz.ntmps193
    go_wp2_with (first | (go_at_call 82; refine (impl_inRange_any _ _ _ _).mono ?_; rintro e w' ⟨rfl, rfl⟩) | (go_at_call 88; refine (impl_isRate_any _ _).mono ?_; rintro e w' ⟨rfl, rfl⟩))
    go_ret
    exact ⟨by rw [Q.out]; rfl, hbw⟩
  cases h2 : inR b.rate 0 200
  · have Q := Lib.hid (show assurB b kind age yrs sum = false by simp [assurB, h1, h2])
    go_enter Tryz.func193, Tryz.ntmps193
    go_wp2_with (first | (go_at_call 82; refine (impl_inRange_any _ _ _ _).mono ?_; rintro e w' ⟨rfl, rfl⟩) | (go_at_call 88; refine (impl_isRate_any _ _).mono ?_; rintro e w' ⟨rfl, rfl⟩))
    go_ret
    exact ⟨by rw [Q.out]; rfl, hbw⟩
  cases h3 : inR age b.first 150
  · have Q := Lib.hid (show assurB b kind age yrs sum = false by simp [assurB, h1, h2, h3])
    go_enter Tryz.func193, Tryz.ntmps193
    go_wp2_with (first | (go_at_call 82; refine (impl_inRange_any _ _ _ _).mono ?_; rintro e w' ⟨rfl, rfl⟩) | (go_at_call 88; refine (impl_isRate_any _ _).mono ?_; rintro e w' ⟨rfl, rfl⟩))
    go_ret
    exact ⟨by rw [Q.out]; rfl, hbw⟩
  obtain ⟨a1, a2⟩ := inR_true.1 h3
  cases h4 : inR sum 1 100000000
  · have Q := Lib.hid (show assurB b kind age yrs sum = false by simp [assurB, h1, h2, h3, h4])
    go_enter Tryz.func193, Tryz.ntmps193
    go_wp2_with (first | (go_at_call 82; refine (impl_inRange_any _ _ _ _).mono ?_; rintro e w' ⟨rfl, rfl⟩) | (go_at_call 88; refine (impl_isRate_any _ _).mono ?_; rintro e w' ⟨rfl, rfl⟩))
    go_ret
    exact ⟨by rw [Q.out]; rfl, hbw⟩
  cases h5 : inR yrs 0 120
  · have Q := Lib.hid (show assurB b kind age yrs sum = false by simp [assurB, h1, h2, h3, h4, h5])
    go_enter Tryz.func193, Tryz.ntmps193
    go_wp2_with (first | (go_at_call 82; refine (impl_inRange_any _ _ _ _).mono ?_; rintro e w' ⟨rfl, rfl⟩) | (go_at_call 88; refine (impl_isRate_any _ _).mono ?_; rintro e w' ⟨rfl, rfl⟩) | (go_at_call 199; refine (impl_isYears_any _ _).mono ?_; rintro e w' ⟨rfl, rfl⟩))
    go_ret
    exact ⟨by rw [Q.out]; rfl, hbw⟩
  obtain ⟨y1, y2⟩ := inR_true.1 h5
  by_cases h6 : age + yrs ≤ 150
  rotate_left
  · have Q := Lib.hid (show assurB b kind age yrs sum = false by simp [assurB, h6])
    have h6b : decide (age + yrs ≤ 150) = false := by simp; omega
    go_enter Tryz.func193, Tryz.ntmps193
    go_wp2_with (first | (go_at_call 82; refine (impl_inRange_any _ _ _ _).mono ?_; rintro e w' ⟨rfl, rfl⟩) | (go_at_call 88; refine (impl_isRate_any _ _).mono ?_; rintro e w' ⟨rfl, rfl⟩) | (go_at_call 199; refine (impl_isYears_any _ _).mono ?_; rintro e w' ⟨rfl, rfl⟩))
    go_ret
    exact ⟨by rw [Q.out]; rfl, hbw⟩
  · have Q := Lib.hid (show assurB b kind age yrs sum = ((yrs == 0) == (kind == 0)) by simp only [assurB, h1, h2, h3, h4, h5, h6, QE.out, decide_true, Bool.true_and])
    have h6b : decide (age + yrs ≤ 150) = true := by simp; omega
    obtain ⟨q, hq⟩ : ∃ q, ((yrs == 0) == (kind == 0)) = q := ⟨_, rfl⟩
    rw [hq] at Q
    go_enter Tryz.func193, Tryz.ntmps193
    go_wp2_with (first | (go_at_call 82; refine (impl_inRange_any _ _ _ _).mono ?_; rintro e w' ⟨rfl, rfl⟩) | (go_at_call 88; refine (impl_isRate_any _ _).mono ?_; rintro e w' ⟨rfl, rfl⟩) | (go_at_call 199; refine (impl_isYears_any _ _).mono ?_; rintro e w' ⟨rfl, rfl⟩))
    go_ret
    exact ⟨by rw [Q.out]; first | rfl | simp, hbw⟩

theorem impl_roundUp_any (a b c : Int) (w : World) (ha : 0 ≤ a ∧ a ≤ 1000000000000000000) (hb : 0 ≤ b ∧ b ≤ 1000000000000000000) (hc : 1 ≤ c ∧ c ≤ 1000000000000000000) (hq : a * b / c ≤ 100000000000000000) :
    Calls Tryz.prog 151 #[.int .i64 a, .int .i64 b, .int .i64 c] w fun e w' => e = .returned (.tuple #[.int .i64 (upP a b c), .bool true]) ∧ Below w.heap.size w w' := by
  have Q := Lib.hid (show mdP a b c = (a * b / c, a * b % c, true) by unfold mdP; rw [if_pos (by omega)])
  have h1 : 0 ≤ a * b / c := Int.ediv_nonneg (Int.mul_nonneg ha.1 hb.1) (by omega)
  have h2 : 0 ≤ a * b % c := Int.emod_nonneg _ (by omega)
  have QU := Lib.hid (show upP a b c = a * b / c + (if 0 < a * b % c then 1 else 0) from rfl)
  generalize a * b / c = q at *
  generalize a * b % c = r at *
  by_cases hr : 0 < r
  · rw [if_pos hr] at QU
    go_enter Tryz.func151, Tryz.ntmps151
    go_wp2_with fail
    refine (impl_multiplyDivide_any a b c _ ⟨by omega, by omega⟩ ⟨by omega, by omega⟩ ⟨by omega, by omega⟩).mono ?_
    rw [Q.out]
    rintro e w1 ⟨rfl, hb1⟩
    go_wp2
    go_ret2
    exact ⟨by rw [QU.out]; rfl, hb1⟩
  · rw [if_neg hr] at QU
    go_enter Tryz.func151, Tryz.ntmps151
    go_wp2_with fail
    refine (impl_multiplyDivide_any a b c _ ⟨by omega, by omega⟩ ⟨by omega, by omega⟩ ⟨by omega, by omega⟩).mono ?_
    rw [Q.out]
    rintro e w1 ⟨rfl, hb1⟩
    go_wp2
    go_ret2
    exact ⟨by rw [QU.out]; first | rfl | (congr 2; omega) | simp, hb1⟩
theorem impl_priced_any (a b c : Int) (w : World) (ha : 0 ≤ a ∧ a ≤ 1000000000000000000) (hb : 0 ≤ b ∧ b ≤ 1000000000000000000) (hc : 1 ≤ c ∧ c ≤ 1000000000000000000) (hq : a * b / c ≤ 100000000000000000) :
    Calls Tryz.prog 110 #[.int .i64 a, .int .i64 b, .int .i64 c] w fun e w' => e = .returned (.int .i64 (upP a b c)) ∧ Below w.heap.size w w' := by
  go_enter Tryz.func110, Tryz.ntmps110
  go_wp2_with (first | (go_at_call 151; refine (impl_roundUp_any a b c _ ha hb hc hq).mono ?_; rintro e w1 ⟨rfl, hb1⟩))
  go_ret
  exact ⟨rfl, hb1⟩


def benT (kind m1 m2 d2 : Int) : Int := if kind = 0 then m1 else if kind = 1 then m1 - m2 else if kind = 2 then m1 - m2 + d2 else d2
def benB (kind n1 n2 : Int) : Int := if kind = 0 then n1 else n1 - n2
set_option maxHeartbeats 2000000 in
theorem impl_benefits_any (kind d1 n1 c1 m1 d2 n2 c2 m2 : Int) (w : World) (hn1 : 0 ≤ n1 ∧ n1 ≤ 200000000000000000) (hm1 : 0 ≤ m1 ∧ m1 ≤ 200000000000000000) (hn2 : 0 ≤ n2 ∧ n2 ≤ 200000000000000000) (hm2 : 0 ≤ m2 ∧ m2 ≤ 200000000000000000) (hd2 : 0 ≤ d2 ∧ d2 ≤ 200000000000000000) :
    Calls Tryz.prog 172 #[.int .i64 kind, .agg #[.int .i64 d1, .int .i64 n1, .int .i64 c1, .int .i64 m1], .agg #[.int .i64 d2, .int .i64 n2, .int .i64 c2, .int .i64 m2]] w fun e w' =>
      e = .returned (.tuple #[.int .i64 (benT kind m1 m2 d2), .int .i64 (benB kind n1 n2)]) ∧ Below w.heap.size w w' := by
  obtain ⟨a1, a2⟩ := hn1
  obtain ⟨a3, a4⟩ := hm1
  obtain ⟨a5, a6⟩ := hn2
  obtain ⟨a7, a8⟩ := hm2
  obtain ⟨a9, a10⟩ := hd2
  have hbw := boxes_below (w := w) (X := [.int .i64 d1, .int .i64 n1, .int .i64 c1, .int .i64 m1]) (Y := [.int .i64 d2, .int .i64 n2, .int .i64 c2, .int .i64 m2]) (tx := 170) (ty := 170)
  have HX := Lib.hid ((Blk.new w 170 #[.int .i64 d1, .int .i64 n1, .int .i64 c1, .int .i64 m1]).alloc (.cells #[.int .i64 d2, .int .i64 n2, .int .i64 c2, .int .i64 m2] 170))
  have HY := Lib.hid (Blk.new (w.alloc (.cells #[.int .i64 d1, .int .i64 n1, .int .i64 c1, .int .i64 m1] 170)) 170 #[.int .i64 d2, .int .i64 n2, .int .i64 c2, .int .i64 m2])
  rw [World.size_alloc] at HY
  obtain ⟨W, hW⟩ : ∃ W, ((w.alloc (.cells #[.int .i64 d1, .int .i64 n1, .int .i64 c1, .int .i64 m1] 170)).alloc (.cells #[.int .i64 d2, .int .i64 n2, .int .i64 c2, .int .i64 m2] 170)) = W := ⟨_, rfl⟩
  have hbW : Below w.heap.size w W := by rw [← hW]; exact hbw
  rw [hW] at HX HY
  have q1 := fun y : Past W => Past.cell (p := ⟨w.heap.size, 1, none⟩) (v := .int .i64 n1) (HX.out.cell 1) y
  have q3 := fun y : Past W => Past.cell (p := ⟨w.heap.size, 3, none⟩) (v := .int .i64 m1) (HX.out.cell 3) y
  have q4 := fun y : Past W => Past.cell (p := ⟨w.heap.size + 1, 0, none⟩) (v := .int .i64 d2) (HY.out.cell 0) y
  have q5 := fun y : Past W => Past.cell (p := ⟨w.heap.size + 1, 1, none⟩) (v := .int .i64 n2) (HY.out.cell 1) y
  have q7 := fun y : Past W => Past.cell (p := ⟨w.heap.size + 1, 3, none⟩) (v := .int .i64 m2) (HY.out.cell 3) y
  have HW := Lib.hid hW; clear hW hbw
  by_cases h0 : kind = 0
  · subst h0
    have Q := Lib.hid (show benT 0 m1 m2 d2 = m1 ∧ benB 0 n1 n2 = n1 by simp [benT, benB])
    go_enter Tryz.func172, Tryz.ntmps172
    go_wp2
    rw [HW.out]
    refine wp_region_past (by kernel_rfl) (by kernel_rfl) ?_
    repeat (go_big_quiet_step (fail))
    refine wpQuiet_nil ?_
    rintro _ ⟨y, rfl⟩
    go_wp2
    go_ret2
    exact ⟨by rw [Q.out.1, Q.out.2]; rfl, hbW.trans (y.2.mono hbW.size)⟩
  by_cases h1 : kind = 1
  · subst h1
    have Q := Lib.hid (show benT 1 m1 m2 d2 = m1 - m2 ∧ benB 1 n1 n2 = n1 - n2 by simp [benT, benB])
    go_enter Tryz.func172, Tryz.ntmps172
    go_wp2
    rw [HW.out]
    refine wp_region_past (by kernel_rfl) (by kernel_rfl) ?_
    repeat (go_big_quiet_step (fail))
    refine wpQuiet_nil ?_
    rintro _ ⟨y, rfl⟩
    go_wp2
    go_ret2
    exact ⟨by rw [Q.out.1, Q.out.2]; rfl, hbW.trans (y.2.mono hbW.size)⟩
  by_cases h2 : kind = 2
  · subst h2
    have Q := Lib.hid (show benT 2 m1 m2 d2 = m1 - m2 + d2 ∧ benB 2 n1 n2 = n1 - n2 by simp [benT, benB])
    go_enter Tryz.func172, Tryz.ntmps172
    go_wp2
    rw [HW.out]
    refine wp_region_past (by kernel_rfl) (by kernel_rfl) ?_
    repeat (go_big_quiet_step (fail))
    refine wpQuiet_nil ?_
    rintro _ ⟨y, rfl⟩
    go_wp2
    go_ret2
    exact ⟨by rw [Q.out.1, Q.out.2]; rfl, hbW.trans (y.2.mono hbW.size)⟩
  have Q := Lib.hid (show benT kind m1 m2 d2 = d2 ∧ benB kind n1 n2 = n1 - n2 by simp [benT, benB, h0, h1, h2])
  go_enter Tryz.func172, Tryz.ntmps172
  go_wp2
  rw [HW.out]
  refine wp_region_past (by kernel_rfl) (by kernel_rfl) ?_
  repeat (go_big_quiet_step (fail))
  refine wpQuiet_nil ?_
  rintro _ ⟨y, rfl⟩
  go_wp2
  go_ret2
  exact ⟨by rw [Q.out.1, Q.out.2]; rfl, hbW.trans (y.2.mono hbW.size)⟩

end Go.Proofs.YtbjdbpdgacfcpaaGreat
end
