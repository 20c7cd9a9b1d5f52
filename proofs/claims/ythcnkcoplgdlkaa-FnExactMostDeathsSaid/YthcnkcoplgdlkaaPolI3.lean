/- Premiums, durations, whether policies are valid: the program's contracts. -/
import Derived.Test.YthcnkcoplgdlkaaPolI2
namespace Go.Proofs.Ythcnkcoplgdlkaa
open Go.RowKit Go.BigFrame

theorem run_field_D (d n c m : Int) (W : World) : (Instr.field 168 (.agg #[.int .i64 d, .int .i64 n, .int .i64 c, .int .i64 m]) 0).run Try.prog W = .ok (.int .i64 d) W := by
  simp [Instr.field, Sem.run_bind, run_underlying Try.underlying168, go_sem]
  rfl
theorem impl_Basis_at_lit (b : Bas) (A : Option Addr) (n cap : Nat) (L : Option Addr) (top lc : Nat) (age : Int) (w : World) (hR : Rd w w.heap.size L 4 (colRows b.lives b.rate top)) (hf : 0 ≤ b.first ∧ b.first ≤ 100) (ha : b.first ≤ age ∧ age ≤ 1000) (hk : b.ix age < top) (ht : top ≤ 1000) (d m c l : Int)
    (hd : b.d age = d) (hm : nC b.lives b.rate (b.ix age) = m) (hc : cC b.lives b.rate (b.ix age) = c) (hl : mC b.lives b.rate (b.ix age) = l) :
    Calls Try.prog 175 #[.agg #[.int .i64 b.first, .slice A n cap, .int .i64 b.rate], .slice L top lc, .int .i64 age] w fun e w' => e = .returned (.agg #[.int .i64 d, .int .i64 m, .int .i64 c, .int .i64 l]) ∧ Below w.heap.size w w' := by
  subst hd hm hc hl
  exact impl_Basis_at_any b A n cap L top lc age w hR hf ha hk ht

set_option maxHeartbeats 2000000 in
theorem impl_LevelPremium_any (b : Bas) (A : Option Addr) (n cap : Nat) (p : Policy) (w : World) (hB : BasT w A n cap b) (hp : polB b p = true) :
    Calls Try.prog 180 #[.agg #[.int .i64 b.first, .slice A n cap], .int .i64 b.rate, .int .i64 p.kind, .int .i64 p.age, .int .i64 p.years, .int .i64 p.sum] w fun e w' =>
      e = .returned (.tuple #[.int .i64 (netP b p), .int .i64 0]) ∧ Below w.heap.size w w' := by
  have hbw : Below w.heap.size w (w.alloc (.cells #[.int .i64 b.first, .slice A n cap] 30)) := (Below.refl _ w).alloc (Nat.le_refl _) _
  have HBT := Lib.hid (hB.past hbw); clear hB
  have P := pol_ok hp
  have Q := Lib.hid (show netP b p = upP p.sum (b.top p.kind p.age p.years) (b.base p.kind p.age p.years) from rfl)
  have t1 := top_bound P.toBasOk p.kind p.age p.years
  have t2 := base_bound P.toBasOk p.kind p.age p.years P.yrs1
  have t3 := base_pos P.toBasOk p.kind p.age p.years (kind_or P)
  have t4 := d_age P
  have t5 := d_bound P.toBasOk p.age
  have s1 := P.sum0; have s2 := P.sum1
  have t6 := mul_div_le (a := p.sum) (m := 1) (by omega) t1.1 (show 1 ≤ b.base p.kind p.age p.years by omega) (by omega)
  go_enter Try.func180, Try.ntmps180
  go_wp2_with fail
  refine (impl_checkAssurance_any b A n cap p _ HBT.out hp).mono ?_
  rintro e w1 ⟨rfl, hb1⟩
  go_wp2_with fail
  refine (impl_priced_any p.sum (b.top p.kind p.age p.years) (b.base p.kind p.age p.years) _ ⟨by omega, by omega⟩ ⟨by omega, by omega⟩ ⟨by omega, by omega⟩ (by omega)).mono ?_
  rintro e w2 ⟨rfl, hb2⟩
  go_wp2
  go_ret2
  exact ⟨by rw [Q.out]; rfl, hbw.trans ((hb1.mono (by simp)).trans (((Below.refl _ w1).alloc (Nat.le_refl _) _).trans (hb2.mono (by simp)) |>.mono (by have := hb1.size; simp at this; omega)))⟩


set_option maxHeartbeats 2000000 in
theorem impl_netPremium_any (b : Bas) (A : Option Addr) (n cap : Nat) (p : Policy) (w : World) (hB : BasT w A n cap b) (hp : polB b p = true) :
    Calls Try.prog 114 #[.agg #[.int .i64 b.first, .slice A n cap, .int .i64 b.rate], .agg p.row.toArray] w fun e w' => e = .returned (.int .i64 (netP b p)) ∧ Below w.heap.size w w' := by
  have hbw := boxes_below (w := w) (X := b.row A n cap) (Y := p.row) (tx := 32) (ty := 44)
  have HB := Lib.hid ((Blk.new w 32 (b.row A n cap).toArray).alloc (.cells p.row.toArray 44))
  have HP := Lib.hid (Blk.new (w.alloc (.cells (b.row A n cap).toArray 32)) 44 p.row.toArray)
  rw [World.size_alloc] at HP
  unfold Bas.row Policy.row at *
  have HBT := Lib.hid (hB.past hbw); clear hB
  go_enter Try.func114, Try.ntmps114
  go_wp2_with fail
  refine (impl_LevelPremium_any b A n cap p _ HBT.out hp).mono ?_
  rintro e w1 ⟨rfl, hb1⟩
  go_wp2
  go_ret
  exact ⟨rfl, hbw.trans (hb1.mono hbw.size)⟩


set_option maxHeartbeats 2000000 in
theorem impl_officePremium_any (b : Bas) (A : Option Addr) (n cap : Nat) (p : Policy) (w : World) (hB : BasT w A n cap b) (hp : polB b p = true) :
    Calls Try.prog 127 #[.agg #[.int .i64 b.first, .slice A n cap, .int .i64 b.rate], .agg p.row.toArray] w fun e w' => e = .returned (.int .i64 (officeP b p)) ∧ Below w.heap.size w w' := by
  have hbw := boxes_below (w := w) (X := b.row A n cap) (Y := p.row) (tx := 32) (ty := 44)
  have HB := Lib.hid ((Blk.new w 32 (b.row A n cap).toArray).alloc (.cells p.row.toArray 44))
  have HP := Lib.hid (Blk.new (w.alloc (.cells (b.row A n cap).toArray 32)) 44 p.row.toArray)
  rw [World.size_alloc] at HP
  unfold Bas.row Policy.row at *
  have HBT := Lib.hid (hB.past hbw); clear hB
  have P := pol_ok hp
  have Q := Lib.hid (show officeP b p = netP b p + ceilDiv (netP b p * p.load) 1000 from rfl)
  obtain ⟨o1, o2, o3, o4⟩ := office_bound P
  obtain ⟨n1, n2⟩ := net_bound P
  have hcd := ceil_bound o1
  obtain ⟨e1, e2⟩ := hcd
  go_enter Try.func127, Try.ntmps127
  go_wp2_with fail
  refine (impl_netPremium_any b A n cap p _ HBT.out hp).mono ?_
  rintro e w1 ⟨rfl, hb1⟩
  have HB1 := Lib.hid (HB.out.below' hb1)
  have HP1 := Lib.hid (HP.out.below' hb1)
  have cp4 : w1.cell? ⟨w.heap.size + 1, 4, none⟩ = some (.int .i64 p.load) := HP1.out.cell 4
  go_wp2_with (first | (go_at_call 155; refine (impl_up_any _ _ _ (by omega) (by omega) (by omega) (by omega)).mono ?_; rintro e w' ⟨rfl, rfl⟩))
  go_ret
  exact ⟨by rw [Q.out]; rfl, hbw.trans (hb1.mono hbw.size)⟩


set_option maxHeartbeats 2000000 in
theorem impl_durationOf_any (b : Bas) (A : Option Addr) (n cap : Nat) (p : Policy) (w : World) (hB : BasT w A n cap b) (P : PolOk b p) :
    Calls Try.prog 119 #[.agg #[.int .i64 b.first, .slice A n cap, .int .i64 b.rate], .agg p.row.toArray] w fun e w' => e = .returned (.int .i64 (durP b p)) ∧ Below w.heap.size w w' := by
  have hbw := boxes_below (w := w) (X := b.row A n cap) (Y := p.row) (tx := 32) (ty := 44)
  have HB := Lib.hid ((Blk.new w 32 (b.row A n cap).toArray).alloc (.cells p.row.toArray 44))
  have HP := Lib.hid (Blk.new (w.alloc (.cells (b.row A n cap).toArray 32)) 44 p.row.toArray)
  rw [World.size_alloc] at HP
  unfold Bas.row Policy.row at *
  have HBT := Lib.hid (hB.past hbw); clear hB
  have f1 := P.tab.first0; have f2 := P.tab.first1; have l2 := P.tab.len1; have a1 := P.age0; have a2 := P.age1
  have hn := HBT.out.lives.small
  have HL := Lib.hid HBT.out.lives.len
  rw [HL.out] at l2
  clear P
  by_cases hk : p.kind = 0
  · have Q := Lib.hid (show durP b p = b.first + (n : Int) - 1 - p.age by unfold durP Bas.last; rw [if_pos hk, HL.out])
    have hkb : (p.kind == 0) = true := by simp [hk]
    clear hk
    have hcT := Lib.hid (Blk.agg_past (cs := [.int .i64 b.first, .slice A n cap, .int .i64 b.rate]) HB.out 0 [.int .i64 b.first, .slice A n cap] rfl)
    have hcB := Lib.hid (Blk.agg_past (cs := [.int .i64 b.first, .slice A n cap, .int .i64 b.rate]) HB.out 0 [.int .i64 b.first, .slice A n cap, .int .i64 b.rate] rfl)
    have hcP := Lib.hid (Blk.agg_past (cs := [.int .i64 p.kind, .int .i64 p.age, .int .i64 p.years, .int .i64 p.sum, .int .i64 p.load]) HP.out 0 [.int .i64 p.kind, .int .i64 p.age, .int .i64 p.years, .int .i64 p.sum, .int .i64 p.load] rfl)
    have db2 := fun y : Past ((w.alloc (.cells #[.int .i64 b.first, .slice A n cap, .int .i64 b.rate] 32)).alloc (.cells #[.int .i64 p.kind, .int .i64 p.age, .int .i64 p.years, .int .i64 p.sum, .int .i64 p.load] 44)) => Past.cell (p := ⟨w.heap.size, 2, none⟩) (v := .int .i64 b.rate) (HB.out.cell 2) y
    have dp0 := fun y : Past ((w.alloc (.cells #[.int .i64 b.first, .slice A n cap, .int .i64 b.rate] 32)).alloc (.cells #[.int .i64 p.kind, .int .i64 p.age, .int .i64 p.years, .int .i64 p.sum, .int .i64 p.load] 44)) => Past.cell (p := ⟨w.heap.size + 1, 0, none⟩) (v := .int .i64 p.kind) (HP.out.cell 0) y
    have dp1 := fun y : Past ((w.alloc (.cells #[.int .i64 b.first, .slice A n cap, .int .i64 b.rate] 32)).alloc (.cells #[.int .i64 p.kind, .int .i64 p.age, .int .i64 p.years, .int .i64 p.sum, .int .i64 p.load] 44)) => Past.cell (p := ⟨w.heap.size + 1, 1, none⟩) (v := .int .i64 p.age) (HP.out.cell 1) y
    have dp2 := fun y : Past ((w.alloc (.cells #[.int .i64 b.first, .slice A n cap, .int .i64 b.rate] 32)).alloc (.cells #[.int .i64 p.kind, .int .i64 p.age, .int .i64 p.years, .int .i64 p.sum, .int .i64 p.load] 44)) => Past.cell (p := ⟨w.heap.size + 1, 2, none⟩) (v := .int .i64 p.years) (HP.out.cell 2) y
    have dp3 := fun y : Past ((w.alloc (.cells #[.int .i64 b.first, .slice A n cap, .int .i64 b.rate] 32)).alloc (.cells #[.int .i64 p.kind, .int .i64 p.age, .int .i64 p.years, .int .i64 p.sum, .int .i64 p.load] 44)) => Past.cell (p := ⟨w.heap.size + 1, 3, none⟩) (v := .int .i64 p.sum) (HP.out.cell 3) y
    have dp4 := fun y : Past ((w.alloc (.cells #[.int .i64 b.first, .slice A n cap, .int .i64 b.rate] 32)).alloc (.cells #[.int .i64 p.kind, .int .i64 p.age, .int .i64 p.years, .int .i64 p.sum, .int .i64 p.load] 44)) => Past.cell (p := ⟨w.heap.size + 1, 4, none⟩) (v := .int .i64 p.load) (HP.out.cell 4) y
    go_enter Try.func119, Try.ntmps119
    go_wp2
    refine wp_region_past (by kernel_rfl) (by kernel_rfl) ?_
    repeat (first | (go_big_quiet_want; (first | (refine quiet_load_agg 30 _ rfl ⟨w.heap.size, 0, none⟩ rfl [.int .i64 b.first, .slice A n cap] hcT.out _ Try.underlying30 rfl Tab.size ?_)); go_simp; go_big_quiet_on) | go_big_quiet_step ((go_at_call 181; exact past_call (impl_LifeTable_end_any b.first A n cap _ hn ⟨by omega, by omega⟩))))
    refine wpQuiet_nil ?_
    rintro _ ⟨y, rfl⟩
    go_wp2
    go_ret
    exact ⟨by rw [Q.out]; rfl, hbw.trans (y.2.mono hbw.size)⟩
  · have Q := Lib.hid (show durP b p = p.years by unfold durP; rw [if_neg hk])
    go_enter Try.func119, Try.ntmps119
    go_wp2
    go_ret
    exact ⟨by rw [Q.out]; rfl, hbw⟩

set_option maxRecDepth 100000 in
set_option maxHeartbeats 6000000 in
theorem impl_IsPolicy_any (b : Bas) (A : Option Addr) (n cap : Nat) (p : Policy) (w : World) (hB : BasT w A n cap b) (_hp : p.fits) :
    Calls Try.prog 104 #[.agg #[.int .i64 b.first, .slice A n cap, .int .i64 b.rate], .agg p.row.toArray] w fun e w' => e = .returned (.bool (polB b p)) ∧ Below w.heap.size w w' := by
  have hbw := boxes_below (w := w) (X := b.row A n cap) (Y := p.row) (tx := 32) (ty := 44)
  have HB := Lib.hid ((Blk.new w 32 (b.row A n cap).toArray).alloc (.cells p.row.toArray 44))
  have HP := Lib.hid (Blk.new (w.alloc (.cells (b.row A n cap).toArray 32)) 44 p.row.toArray)
  rw [World.size_alloc] at HP
  unfold Bas.row Policy.row at *
  have HBT := Lib.hid (hB.past hbw); clear hB
  cases h1 : basisB b
  · have Q := Lib.hid (show polB b p = false by simp [polB, h1])
    go_enter Try.func104, Try.ntmps104
    go_wp2_with fail
    refine (impl_IsBasis_any b A n cap _ HBT.out).mono ?_
    rw [h1]
    rintro e w1 ⟨rfl, hb1⟩
    go_wp2
    go_ret
    exact ⟨by rw [Q.out]; rfl, hbw.trans (hb1.mono hbw.size)⟩
  have HOK := Lib.hid (basis_ok h1)
  have f1 := HOK.out.tab.first0; have f2 := HOK.out.tab.first1
  cases h2 : assurB b p.kind p.age p.years p.sum
  · have Q := Lib.hid (show polB b p = false by simp [polB, h1, h2])
    go_enter Try.func104, Try.ntmps104
    go_wp2_with fail
    refine (impl_IsBasis_any b A n cap _ HBT.out).mono ?_
    rw [h1]
    rintro e w1 ⟨rfl, hb1⟩
    have HB1 := Lib.hid (HB.out.below' hb1)
    have HP1 := Lib.hid (HP.out.below' hb1)
    have cb0 : w1.cell? ⟨w.heap.size, 0, none⟩ = some (.int .i64 b.first) := HB1.out.cell 0
    have cb1 : w1.cell? ⟨w.heap.size, 1, none⟩ = some (.slice A n cap) := HB1.out.cell 1
    have cb2 : w1.cell? ⟨w.heap.size, 2, none⟩ = some (.int .i64 b.rate) := HB1.out.cell 2
    have cp0 : w1.cell? ⟨w.heap.size + 1, 0, none⟩ = some (.int .i64 p.kind) := HP1.out.cell 0
    have cp1 : w1.cell? ⟨w.heap.size + 1, 1, none⟩ = some (.int .i64 p.age) := HP1.out.cell 1
    have cp2 : w1.cell? ⟨w.heap.size + 1, 2, none⟩ = some (.int .i64 p.years) := HP1.out.cell 2
    have cp3 : w1.cell? ⟨w.heap.size + 1, 3, none⟩ = some (.int .i64 p.sum) := HP1.out.cell 3
    have cp4 : w1.cell? ⟨w.heap.size + 1, 4, none⟩ = some (.int .i64 p.load) := HP1.out.cell 4
    have hcT := Lib.hid (Blk.agg (cs := [.int .i64 b.first, .slice A n cap, .int .i64 b.rate]) HB1.out 0 [.int .i64 b.first, .slice A n cap] rfl)
    have hcB := Lib.hid (Blk.agg (cs := [.int .i64 b.first, .slice A n cap, .int .i64 b.rate]) HB1.out 0 [.int .i64 b.first, .slice A n cap, .int .i64 b.rate] rfl)
    have hcP := Lib.hid (Blk.agg (cs := [.int .i64 p.kind, .int .i64 p.age, .int .i64 p.years, .int .i64 p.sum, .int .i64 p.load]) HP1.out 0 [.int .i64 p.kind, .int .i64 p.age, .int .i64 p.years, .int .i64 p.sum, .int .i64 p.load] rfl)
    go_wp2_with (first | (refine wpList_load_agg rfl 30 _ rfl ⟨w.heap.size, 0, none⟩ rfl [.int .i64 b.first, .slice A n cap] hcT.out _ Try.underlying30 rfl Tab.size ?_))
    refine (impl_isAssurance_any b A n cap p.kind p.age p.years p.sum _ ⟨by omega, by omega⟩).mono ?_
    rw [h2]
    rintro e w2 ⟨rfl, hb2⟩
    go_wp2
    go_ret
    exact ⟨by rw [Q.out]; rfl, hbw.trans ((below_step hb1 hb2).mono hbw.size)⟩
  have hass := h2
  simp only [assurB, Bool.and_eq_true, inR_true, decide_eq_true_eq] at hass
  obtain ⟨_, _, ⟨a1, a2⟩, _, ⟨y1, y2⟩, e1, _⟩ := hass
  go_enter Try.func104, Try.ntmps104
  go_wp2_with fail
  refine (impl_IsBasis_any b A n cap _ HBT.out).mono ?_
  rw [h1]
  rintro e w1 ⟨rfl, hb1⟩
  have HB1 := Lib.hid (HB.out.below' hb1)
  have HP1 := Lib.hid (HP.out.below' hb1)
  have cb0 : w1.cell? ⟨w.heap.size, 0, none⟩ = some (.int .i64 b.first) := HB1.out.cell 0
  have cb1 : w1.cell? ⟨w.heap.size, 1, none⟩ = some (.slice A n cap) := HB1.out.cell 1
  have cb2 : w1.cell? ⟨w.heap.size, 2, none⟩ = some (.int .i64 b.rate) := HB1.out.cell 2
  have cp0 : w1.cell? ⟨w.heap.size + 1, 0, none⟩ = some (.int .i64 p.kind) := HP1.out.cell 0
  have cp1 : w1.cell? ⟨w.heap.size + 1, 1, none⟩ = some (.int .i64 p.age) := HP1.out.cell 1
  have cp2 : w1.cell? ⟨w.heap.size + 1, 2, none⟩ = some (.int .i64 p.years) := HP1.out.cell 2
  have cp3 : w1.cell? ⟨w.heap.size + 1, 3, none⟩ = some (.int .i64 p.sum) := HP1.out.cell 3
  have cp4 : w1.cell? ⟨w.heap.size + 1, 4, none⟩ = some (.int .i64 p.load) := HP1.out.cell 4
  have hcT := Lib.hid (Blk.agg (cs := [.int .i64 b.first, .slice A n cap, .int .i64 b.rate]) HB1.out 0 [.int .i64 b.first, .slice A n cap] rfl)
  have hcB := Lib.hid (Blk.agg (cs := [.int .i64 b.first, .slice A n cap, .int .i64 b.rate]) HB1.out 0 [.int .i64 b.first, .slice A n cap, .int .i64 b.rate] rfl)
  have hcP := Lib.hid (Blk.agg (cs := [.int .i64 p.kind, .int .i64 p.age, .int .i64 p.years, .int .i64 p.sum, .int .i64 p.load]) HP1.out 0 [.int .i64 p.kind, .int .i64 p.age, .int .i64 p.years, .int .i64 p.sum, .int .i64 p.load] rfl)
  have HBT1 := Lib.hid (HBT.out.past hb1)
  go_wp2_with (first | (refine wpList_load_agg rfl 30 _ rfl ⟨w.heap.size, 0, none⟩ rfl [.int .i64 b.first, .slice A n cap] hcT.out _ Try.underlying30 rfl Tab.size ?_))
  refine (impl_isAssurance_any b A n cap p.kind p.age p.years p.sum _ ⟨by omega, by omega⟩).mono ?_
  rw [h2]
  rintro e w2 ⟨rfl, hb2⟩
  clear cb0 cb1 cb2 cp0 cp1 cp2 cp3 cp4 hcT hcB hcP
  have HB2 := Lib.hid (HB1.out.below' hb2)
  have HP2 := Lib.hid (HP1.out.below' hb2)
  have cb0 : w2.cell? ⟨w.heap.size, 0, none⟩ = some (.int .i64 b.first) := HB2.out.cell 0
  have cb1 : w2.cell? ⟨w.heap.size, 1, none⟩ = some (.slice A n cap) := HB2.out.cell 1
  have cb2 : w2.cell? ⟨w.heap.size, 2, none⟩ = some (.int .i64 b.rate) := HB2.out.cell 2
  have cp0 : w2.cell? ⟨w.heap.size + 1, 0, none⟩ = some (.int .i64 p.kind) := HP2.out.cell 0
  have cp1 : w2.cell? ⟨w.heap.size + 1, 1, none⟩ = some (.int .i64 p.age) := HP2.out.cell 1
  have cp2 : w2.cell? ⟨w.heap.size + 1, 2, none⟩ = some (.int .i64 p.years) := HP2.out.cell 2
  have cp3 : w2.cell? ⟨w.heap.size + 1, 3, none⟩ = some (.int .i64 p.sum) := HP2.out.cell 3
  have cp4 : w2.cell? ⟨w.heap.size + 1, 4, none⟩ = some (.int .i64 p.load) := HP2.out.cell 4
  have hcT := Lib.hid (Blk.agg (cs := [.int .i64 b.first, .slice A n cap, .int .i64 b.rate]) HB2.out 0 [.int .i64 b.first, .slice A n cap] rfl)
  have hcB := Lib.hid (Blk.agg (cs := [.int .i64 b.first, .slice A n cap, .int .i64 b.rate]) HB2.out 0 [.int .i64 b.first, .slice A n cap, .int .i64 b.rate] rfl)
  have hcP := Lib.hid (Blk.agg (cs := [.int .i64 p.kind, .int .i64 p.age, .int .i64 p.years, .int .i64 p.sum, .int .i64 p.load]) HP2.out 0 [.int .i64 p.kind, .int .i64 p.age, .int .i64 p.years, .int .i64 p.sum, .int .i64 p.load] rfl)
  have HBT2 := Lib.hid (HBT1.out.past hb2)
  have hb02 := hbw.trans ((below_step hb1 hb2).mono hbw.size)
  cases h3 : inR p.load 0 1000
  · have Q := Lib.hid (show polB b p = false by simp [polB, h1, h2, h3])
    go_wp2_with (first | (go_at_call 85; refine (impl_inRange_any _ _ _ _).mono ?_; rintro e w' ⟨rfl, rfl⟩))
    go_ret
    exact ⟨by rw [Q.out]; rfl, hb02⟩
  obtain ⟨top, htp⟩ : ∃ top, (151 - b.first).toNat = top := ⟨_, rfl⟩
  have htop1 : (top : Int) ≤ 151 - b.first := by omega
  have htop2 : 151 - b.first ≤ (top : Int) := by omega
  have HTP := Lib.hid htp; clear htp
  go_wp2_with (first | (go_at_call 85; refine (impl_inRange_any _ _ _ _).mono ?_; rintro e w' ⟨rfl, rfl⟩) | (refine wpList_load_agg rfl 30 _ rfl ⟨w.heap.size, 0, none⟩ rfl [.int .i64 b.first, .slice A n cap] hcT.out _ Try.underlying30 rfl Tab.size ?_))
  refine (impl_columnsOf_any b.first A n cap b.lives b.rate _ HBT2.out.lives HOK.out.tab ⟨HOK.out.rate0, HOK.out.rate1⟩).mono ?_
  rw [HTP.out]
  rintro e w3 ⟨g, rfl, hL, hb3⟩
  clear cb0 cb1 cb2 cp0 cp1 cp2 cp3 cp4 hcT hcB hcP
  have HB3 := Lib.hid (HB2.out.below' hb3)
  have HP3 := Lib.hid (HP2.out.below' hb3)
  have HL3 := Lib.hid hL; clear hL
  have hb03 := hb02.trans (hb3.mono hb02.size)
  have cp2 : w3.cell? ⟨w.heap.size + 1, 2, none⟩ = some (.int .i64 p.years) := HP3.out.cell 2
  obtain ⟨mx, hmx⟩ : ∃ mx, max 1 p.years = mx := ⟨_, rfl⟩
  have hmx1 : 1 ≤ mx := by omega
  have hmx2 : mx ≤ 120 := by omega
  have hmx3 : p.age + mx ≤ 151 := by omega
  have HMX := Lib.hid hmx
  go_wp2
  clear hmx cp2
  go_loopw [40] (fun i wr => ∃ k : Nat, (k : Int) ≤ mx ∧ i = .int .i64 k ∧ Hid (∀ j : Nat, j < k → b.d (p.age + j) ≠ 0) ∧ Below w3.heap.size w3 wr) (fun i _ => 121 - (intOf i).toNat)
  case atStart => exact ⟨0, by omega, rfl, Lib.hid (fun j h => by omega), Below.refl _ _⟩
  case round =>
    obtain ⟨k, hk, rfl, hall, hb⟩ := hrel
    have HB4 := Lib.hid (HB3.out.below' hb)
    have HP4 := Lib.hid (HP3.out.below' hb)
    have hb04 := hb03.trans (hb.mono hb03.size)
    have g0 : wr.cell? ⟨w.heap.size, 0, none⟩ = some (.int .i64 b.first) := HB4.out.cell 0
    have g1 : wr.cell? ⟨w.heap.size, 1, none⟩ = some (.slice A n cap) := HB4.out.cell 1
    have g2 : wr.cell? ⟨w.heap.size, 2, none⟩ = some (.int .i64 b.rate) := HB4.out.cell 2
    have g3 : wr.cell? ⟨w.heap.size + 1, 1, none⟩ = some (.int .i64 p.age) := HP4.out.cell 1
    by_cases hlt : (k : Int) < mx
    · have HL4 := Lib.hid (HL3.out.past hb)
      go_wp2_with fail
      obtain ⟨dk, hdk⟩ : ∃ dk, b.d (p.age + (k : Int)) = dk := ⟨_, rfl⟩
      have HDk := Lib.hid hdk; clear hdk
      obtain ⟨nk, hnk⟩ : ∃ nk, nC b.lives b.rate (b.ix (p.age + (k : Int))) = nk := ⟨_, rfl⟩
      obtain ⟨ck, hck⟩ : ∃ ck, cC b.lives b.rate (b.ix (p.age + (k : Int))) = ck := ⟨_, rfl⟩
      obtain ⟨mk, hmk⟩ : ∃ mk, mC b.lives b.rate (b.ix (p.age + (k : Int))) = mk := ⟨_, rfl⟩
      refine (impl_Basis_at_lit b A n cap (some ⟨g, 0, none⟩) top top (p.age + (k : Int)) _ HL4.out ⟨by omega, by omega⟩ ⟨by omega, by omega⟩ (by unfold Bas.ix; omega) (by omega) dk nk ck mk HDk.out hnk hck hmk).mono ?_
      clear hnk hck hmk
      by_cases hd : dk = 0
      · have Q := Lib.hid (show polB b p = false by
          cases e : polB b p
          · rfl
          · exact absurd (HDk.out.trans hd) ((pol_ok e).band k (by have := HMX.out; omega)))
        subst hd
        rintro e w4 ⟨rfl, hb4⟩
        have hfd := run_field_D 0 nk ck mk w4
        go_wp2
        go_ret
        exact ⟨by rw [Q.out]; rfl, hb04.trans (hb4.mono hb04.size)⟩
      · rintro e w4 ⟨rfl, hb4⟩
        have hfd := run_field_D dk nk ck mk w4
        go_wp2
        go_roundw
        case rel => exact ⟨k + 1, by omega, by go_num, Lib.hid (fun j h => by
          by_cases e : j = k
          · subst e; exact fun h9 => hd (HDk.out.symm.trans h9)
          · exact hall.out j (by omega)), below_step hb hb4⟩
        case measure => simp [intOf]; omega
    · have Q := Lib.hid (show polB b p = true by
        have e7 : bandB b p.age p.years = true := by
          simp only [bandB, List.all_eq_true, List.mem_range, decide_eq_true_eq]
          intro i hi
          exact hall.out i (by have := HMX.out; omega)
        simp only [polB, h1, h2, h3, e7, Bool.and_self])
      go_wp2
      go_ret
      exact ⟨by rw [Q.out]; rfl, hb04⟩

end Go.Proofs.Ythcnkcoplgdlkaa
