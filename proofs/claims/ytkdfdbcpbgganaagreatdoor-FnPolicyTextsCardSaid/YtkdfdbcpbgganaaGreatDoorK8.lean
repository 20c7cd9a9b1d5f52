/- Parts of a proof, one after another: PolI, PolI2, PolI3. No condition. -/
import Derived.Test.YtkdfdbcpbgganaaGreatDoorK4
import Derived.Test.YtkdfdbcpbgganaaGreatDoorK7
import Derived.Deep.RegionHeld3
/- Values of assurances, whether policies are valid, premiums: the program's contracts. -/
section
namespace Go.Proofs.YtkdfdbcpbgganaaGreatDoor
open Go.RowKit Go.BigFrame

theorem impl_IsBasis_any (b : Bas) (A : Option Addr) (n cap : Nat) (w : World) (hB : BasT w A n cap b) :
    Calls Tryz.prog 88 #[.agg #[.int .i64 b.first, .slice A n cap, .int .i64 b.rate]] w fun e w' => e = .returned (.bool (basisB b)) ∧ Below w.heap.size w w' := by
  have hbw : Below w.heap.size w (w.alloc (.cells #[.int .i64 b.first, .slice A n cap, .int .i64 b.rate] 40)) := (Below.refl _ w).alloc (Nat.le_refl _) _
  have HB := Lib.hid (Blk.new w 40 #[.int .i64 b.first, .slice A n cap, .int .i64 b.rate])
  have HBT := Lib.hid (hB.past hbw); clear hB
  cases h1 : tableB b.first b.lives
  · have Q := Lib.hid (show basisB b = false by simp [basisB, h1])
    go_enter Tryz.func88, Tryz.ntmps88
    go_wp2_with fail
    refine (impl_IsLifeTable_any b.first A n cap b.lives _ HBT.out.lives HBT.out.cap HBT.out.first).mono ?_
    rw [h1]
    rintro e w1 ⟨rfl, hb1⟩
    go_wp2
    go_ret
    exact ⟨by rw [Q.out]; rfl, hbw.trans (hb1.mono (by simp))⟩
  · have Q := Lib.hid (show basisB b = inR b.rate 0 200 by simp [basisB, h1])
    go_enter Tryz.func88, Tryz.ntmps88
    go_wp2_with fail
    refine (impl_IsLifeTable_any b.first A n cap b.lives _ HBT.out.lives HBT.out.cap HBT.out.first).mono ?_
    rw [h1]
    rintro e w1 ⟨rfl, hb1⟩
    have c2 : w1.cell? ⟨w.heap.size, 2, none⟩ = some (.int .i64 b.rate) := (HB.out.below' hb1).cell 2
    go_wp2_with (first | (go_at_call 68; refine (impl_isRate_any _ _).mono ?_; rintro e w' ⟨rfl, rfl⟩))
    go_ret
    exact ⟨by rw [Q.out]; rfl, hbw.trans (hb1.mono (by simp))⟩

set_option maxHeartbeats 1000000 in
theorem impl_Basis_at_any (b : Bas) (A : Option Addr) (n cap : Nat) (L : Option Addr) (top lc : Nat) (age : Int) (w : World) (hR : Rd w w.heap.size L 4 (colRows b.lives b.rate top)) (hf : 0 ≤ b.first ∧ b.first ≤ 100) (ha : b.first ≤ age ∧ age ≤ 1000) (hk : b.ix age < top) (ht : top ≤ 1000) :
    Calls Tryz.prog 90 #[.agg #[.int .i64 b.first, .slice A n cap, .int .i64 b.rate], .slice L top lc, .int .i64 age] w fun e w' => e = .returned (.agg (colRow b.lives b.rate (b.ix age)).toArray) ∧ Below w.heap.size w w' := by
  have hbw : Below w.heap.size w ((w.alloc (.cells #[.int .i64 b.first, .slice A n cap, .int .i64 b.rate] 40)).alloc (.cells #[.int .i64 0, .int .i64 0, .int .i64 0, .int .i64 0] 101)) := ((Below.refl _ w).alloc (Nat.le_refl _) _).alloc (by simp) _
  obtain ⟨a1, a2⟩ := ha
  obtain ⟨f1, f2⟩ := hf
  obtain ⟨k, hk'⟩ := Int.eq_ofNat_of_zero_le (show 0 ≤ age - b.first by omega)
  have HE := Lib.hid (show b.ix age = k by unfold Bas.ix; omega)
  rw [HE.out] at hk ⊢
  have hki : (k : Int) < (top : Int) := by omega
  obtain ⟨ad, rfl, had, _, hc⟩ := hR.at' (colRows_get hk)
  have Hc := Lib.hid (fun j v hv => (hbw.cell (p := (ad.add (k * 4)).add j) (by rw [block_of_add, block_of_add]; exact had)).trans (hc j v hv)); clear hc hR
  go_enter Tryz.func90, Tryz.ntmps90
  go_wp2_with (refine wpList_load_agg rfl 101 _ rfl (ad.add (k * 4)) rfl (colRow b.lives b.rate k) Hc.out _ Tryz.underlying101 rfl Columns.size ?_)
  refine bodyPost_ret (v := .agg (colRow b.lives b.rate k).toArray) (by simp [results, Tryz.results90, go_sem]) rfl ⟨rfl, ?_⟩
  repeat (first | exact Below.refl _ _ | refine Below.alloc ?_ (by simp <;> omega) _ | refine Below.setCell ?_ (by simp <;> omega) _ | refine Below.drew ?_)

set_option maxHeartbeats 1000000 in
theorem impl_isAssurance_any (b : Bas) (A : Option Addr) (n cap : Nat) (kind age yrs sum : Int) (w : World) (hf : 0 ≤ b.first ∧ b.first ≤ 100) :
    Calls Tryz.prog 89 #[.agg #[.int .i64 b.first, .slice A n cap], .int .i64 b.rate, .int .i64 kind, .int .i64 age, .int .i64 yrs, .int .i64 sum] w fun e w' => e = .returned (.bool (assurB b kind age yrs sum)) ∧ Below w.heap.size w w' := by
  have hbw : Below w.heap.size w (w.alloc (.cells #[.int .i64 b.first, .slice A n cap] 26)) := (Below.refl _ w).alloc (Nat.le_refl _) _
  obtain ⟨f1, f2⟩ := hf
  have QE := Lib.hid (show (decide (yrs = 0) == decide (kind = 0)) = ((yrs == 0) == (kind == 0)) from rfl)
  cases h1 : inR kind 0 3
  · have Q := Lib.hid (show assurB b kind age yrs sum = false by simp [assurB, h1])
    go_enter Tryz.func89, Tryz.ntmps89
    go_wp2_with (first | (go_at_call 50; refine (impl_inRange_any _ _ _ _).mono ?_; rintro e w' ⟨rfl, rfl⟩) | (go_at_call 68; refine (impl_isRate_any _ _).mono ?_; rintro e w' ⟨rfl, rfl⟩))
    go_ret
    exact ⟨by rw [Q.out]; rfl, hbw⟩
  cases h2 : inR b.rate 0 200
  · have Q := Lib.hid (show assurB b kind age yrs sum = false by simp [assurB, h1, h2])
    go_enter Tryz.func89, Tryz.ntmps89
    go_wp2_with (first | (go_at_call 50; refine (impl_inRange_any _ _ _ _).mono ?_; rintro e w' ⟨rfl, rfl⟩) | (go_at_call 68; refine (impl_isRate_any _ _).mono ?_; rintro e w' ⟨rfl, rfl⟩))
    go_ret
    exact ⟨by rw [Q.out]; rfl, hbw⟩
  cases h3 : inR age b.first 150
  · have Q := Lib.hid (show assurB b kind age yrs sum = false by simp [assurB, h1, h2, h3])
    go_enter Tryz.func89, Tryz.ntmps89
    go_wp2_with (first | (go_at_call 50; refine (impl_inRange_any _ _ _ _).mono ?_; rintro e w' ⟨rfl, rfl⟩) | (go_at_call 68; refine (impl_isRate_any _ _).mono ?_; rintro e w' ⟨rfl, rfl⟩))
    go_ret
    exact ⟨by rw [Q.out]; rfl, hbw⟩
  obtain ⟨a1, a2⟩ := inR_true.1 h3
  cases h4 : inR sum 1 100000000
  · have Q := Lib.hid (show assurB b kind age yrs sum = false by simp [assurB, h1, h2, h3, h4])
    go_enter Tryz.func89, Tryz.ntmps89
    go_wp2_with (first | (go_at_call 50; refine (impl_inRange_any _ _ _ _).mono ?_; rintro e w' ⟨rfl, rfl⟩) | (go_at_call 68; refine (impl_isRate_any _ _).mono ?_; rintro e w' ⟨rfl, rfl⟩))
    go_ret
    exact ⟨by rw [Q.out]; rfl, hbw⟩
  cases h5 : inR yrs 0 120
  · have Q := Lib.hid (show assurB b kind age yrs sum = false by simp [assurB, h1, h2, h3, h4, h5])
    go_enter Tryz.func89, Tryz.ntmps89
    go_wp2_with (first | (go_at_call 50; refine (impl_inRange_any _ _ _ _).mono ?_; rintro e w' ⟨rfl, rfl⟩) | (go_at_call 68; refine (impl_isRate_any _ _).mono ?_; rintro e w' ⟨rfl, rfl⟩) | (go_at_call 118; refine (impl_isYears_any _ _).mono ?_; rintro e w' ⟨rfl, rfl⟩))
    go_ret
    exact ⟨by rw [Q.out]; rfl, hbw⟩
  obtain ⟨y1, y2⟩ := inR_true.1 h5
  by_cases h6 : age + yrs ≤ 150
  rotate_left
  · have Q := Lib.hid (show assurB b kind age yrs sum = false by simp [assurB, h6])
    have h6b : decide (age + yrs ≤ 150) = false := by simp; omega
    go_enter Tryz.func89, Tryz.ntmps89
    go_wp2_with (first | (go_at_call 50; refine (impl_inRange_any _ _ _ _).mono ?_; rintro e w' ⟨rfl, rfl⟩) | (go_at_call 68; refine (impl_isRate_any _ _).mono ?_; rintro e w' ⟨rfl, rfl⟩) | (go_at_call 118; refine (impl_isYears_any _ _).mono ?_; rintro e w' ⟨rfl, rfl⟩))
    go_ret
    exact ⟨by rw [Q.out]; rfl, hbw⟩
  · have Q := Lib.hid (show assurB b kind age yrs sum = ((yrs == 0) == (kind == 0)) by simp only [assurB, h1, h2, h3, h4, h5, h6, QE.out, decide_true, Bool.true_and])
    have h6b : decide (age + yrs ≤ 150) = true := by simp; omega
    obtain ⟨q, hq⟩ : ∃ q, ((yrs == 0) == (kind == 0)) = q := ⟨_, rfl⟩
    rw [hq] at Q
    go_enter Tryz.func89, Tryz.ntmps89
    go_wp2_with (first | (go_at_call 50; refine (impl_inRange_any _ _ _ _).mono ?_; rintro e w' ⟨rfl, rfl⟩) | (go_at_call 68; refine (impl_isRate_any _ _).mono ?_; rintro e w' ⟨rfl, rfl⟩) | (go_at_call 118; refine (impl_isYears_any _ _).mono ?_; rintro e w' ⟨rfl, rfl⟩))
    go_ret
    exact ⟨by rw [Q.out]; first | rfl | simp, hbw⟩

theorem impl_roundUp_any (a b c : Int) (w : World) (ha : 0 ≤ a ∧ a ≤ 1000000000000000000) (hb : 0 ≤ b ∧ b ≤ 1000000000000000000) (hc : 1 ≤ c ∧ c ≤ 1000000000000000000) (hq : a * b / c ≤ 100000000000000000) :
    Calls Tryz.prog 74 #[.int .i64 a, .int .i64 b, .int .i64 c] w fun e w' => e = .returned (.tuple #[.int .i64 (upP a b c), .bool true]) ∧ Below w.heap.size w w' := by
  have Q := Lib.hid (show mdP a b c = (a * b / c, a * b % c, true) by unfold mdP; rw [if_pos (by omega)])
  have h1 : 0 ≤ a * b / c := Int.ediv_nonneg (Int.mul_nonneg ha.1 hb.1) (by omega)
  have h2 : 0 ≤ a * b % c := Int.emod_nonneg _ (by omega)
  have QU := Lib.hid (show upP a b c = a * b / c + (if 0 < a * b % c then 1 else 0) from rfl)
  generalize a * b / c = q at *
  generalize a * b % c = r at *
  by_cases hr : 0 < r
  · rw [if_pos hr] at QU
    go_enter Tryz.func74, Tryz.ntmps74
    go_wp2_with fail
    refine (impl_multiplyDivide_any a b c _ ⟨by omega, by omega⟩ ⟨by omega, by omega⟩ ⟨by omega, by omega⟩).mono ?_
    rw [Q.out]
    rintro e w1 ⟨rfl, hb1⟩
    go_wp2
    go_ret2
    exact ⟨by rw [QU.out]; rfl, hb1⟩
  · rw [if_neg hr] at QU
    go_enter Tryz.func74, Tryz.ntmps74
    go_wp2_with fail
    refine (impl_multiplyDivide_any a b c _ ⟨by omega, by omega⟩ ⟨by omega, by omega⟩ ⟨by omega, by omega⟩).mono ?_
    rw [Q.out]
    rintro e w1 ⟨rfl, hb1⟩
    go_wp2
    go_ret2
    exact ⟨by rw [QU.out]; first | rfl | (congr 2; omega) | simp, hb1⟩
theorem impl_priced_any (a b c : Int) (w : World) (ha : 0 ≤ a ∧ a ≤ 1000000000000000000) (hb : 0 ≤ b ∧ b ≤ 1000000000000000000) (hc : 1 ≤ c ∧ c ≤ 1000000000000000000) (hq : a * b / c ≤ 100000000000000000) :
    Calls Tryz.prog 37 #[.int .i64 a, .int .i64 b, .int .i64 c] w fun e w' => e = .returned (.int .i64 (upP a b c)) ∧ Below w.heap.size w w' := by
  go_enter Tryz.func37, Tryz.ntmps37
  go_wp2_with (first | (go_at_call 74; refine (impl_roundUp_any a b c _ ha hb hc hq).mono ?_; rintro e w1 ⟨rfl, hb1⟩))
  go_ret
  exact ⟨rfl, hb1⟩


def benT (kind m1 m2 d2 : Int) : Int := if kind = 0 then m1 else if kind = 1 then m1 - m2 else if kind = 2 then m1 - m2 + d2 else d2
def benB (kind n1 n2 : Int) : Int := if kind = 0 then n1 else n1 - n2
set_option maxHeartbeats 2000000 in
theorem impl_benefits_any (kind d1 n1 c1 m1 d2 n2 c2 m2 : Int) (w : World) (hn1 : 0 ≤ n1 ∧ n1 ≤ 200000000000000000) (hm1 : 0 ≤ m1 ∧ m1 ≤ 200000000000000000) (hn2 : 0 ≤ n2 ∧ n2 ≤ 200000000000000000) (hm2 : 0 ≤ m2 ∧ m2 ≤ 200000000000000000) (hd2 : 0 ≤ d2 ∧ d2 ≤ 200000000000000000) :
    Calls Tryz.prog 161 #[.int .i64 kind, .agg #[.int .i64 d1, .int .i64 n1, .int .i64 c1, .int .i64 m1], .agg #[.int .i64 d2, .int .i64 n2, .int .i64 c2, .int .i64 m2]] w fun e w' =>
      e = .returned (.tuple #[.int .i64 (benT kind m1 m2 d2), .int .i64 (benB kind n1 n2)]) ∧ Below w.heap.size w w' := by
  obtain ⟨a1, a2⟩ := hn1
  obtain ⟨a3, a4⟩ := hm1
  obtain ⟨a5, a6⟩ := hn2
  obtain ⟨a7, a8⟩ := hm2
  obtain ⟨a9, a10⟩ := hd2
  have hbw := boxes_below (w := w) (X := [.int .i64 d1, .int .i64 n1, .int .i64 c1, .int .i64 m1]) (Y := [.int .i64 d2, .int .i64 n2, .int .i64 c2, .int .i64 m2]) (tx := 101) (ty := 101)
  have HX := Lib.hid ((Blk.new w 101 #[.int .i64 d1, .int .i64 n1, .int .i64 c1, .int .i64 m1]).alloc (.cells #[.int .i64 d2, .int .i64 n2, .int .i64 c2, .int .i64 m2] 101))
  have HY := Lib.hid (Blk.new (w.alloc (.cells #[.int .i64 d1, .int .i64 n1, .int .i64 c1, .int .i64 m1] 101)) 101 #[.int .i64 d2, .int .i64 n2, .int .i64 c2, .int .i64 m2])
  rw [World.size_alloc] at HY
  obtain ⟨W, hW⟩ : ∃ W, ((w.alloc (.cells #[.int .i64 d1, .int .i64 n1, .int .i64 c1, .int .i64 m1] 101)).alloc (.cells #[.int .i64 d2, .int .i64 n2, .int .i64 c2, .int .i64 m2] 101)) = W := ⟨_, rfl⟩
  have hbW : Below w.heap.size w W := by rw [← hW]; exact hbw
  rw [hW] at HX HY
  have q1 := fun y : Past W => Past.cell (p := ⟨w.heap.size, 1, none⟩) (v := .int .i64 n1) (HX.out.cell 1) y
  have q3 := fun y : Past W => Past.cell (p := ⟨w.heap.size, 3, none⟩) (v := .int .i64 m1) (HX.out.cell 3) y
  have q4 := fun y : Past W => Past.cell (p := ⟨w.heap.size + 1, 0, none⟩) (v := .int .i64 d2) (HY.out.cell 0) y
  have q5 := fun y : Past W => Past.cell (p := ⟨w.heap.size + 1, 1, none⟩) (v := .int .i64 n2) (HY.out.cell 1) y
  have q7 := fun y : Past W => Past.cell (p := ⟨w.heap.size + 1, 3, none⟩) (v := .int .i64 m2) (HY.out.cell 3) y
  have HW := Lib.hid hW; clear hW hbw
  by_cases h0 : kind = 0
  · subst h0
    have Q := Lib.hid (show benT 0 m1 m2 d2 = m1 ∧ benB 0 n1 n2 = n1 by simp [benT, benB])
    go_enter Tryz.func161, Tryz.ntmps161
    go_wp2
    rw [HW.out]
    refine wp_region_past (by kernel_rfl) (by kernel_rfl) ?_
    repeat (go_big_quiet_step (fail))
    refine wpQuiet_nil ?_
    rintro _ ⟨y, rfl⟩
    go_wp2
    go_ret2
    exact ⟨by rw [Q.out.1, Q.out.2]; rfl, hbW.trans (y.2.mono hbW.size)⟩
  by_cases h1 : kind = 1
  · subst h1
    have Q := Lib.hid (show benT 1 m1 m2 d2 = m1 - m2 ∧ benB 1 n1 n2 = n1 - n2 by simp [benT, benB])
    go_enter Tryz.func161, Tryz.ntmps161
    go_wp2
    rw [HW.out]
    refine wp_region_past (by kernel_rfl) (by kernel_rfl) ?_
    repeat (go_big_quiet_step (fail))
    refine wpQuiet_nil ?_
    rintro _ ⟨y, rfl⟩
    go_wp2
    go_ret2
    exact ⟨by rw [Q.out.1, Q.out.2]; rfl, hbW.trans (y.2.mono hbW.size)⟩
  by_cases h2 : kind = 2
  · subst h2
    have Q := Lib.hid (show benT 2 m1 m2 d2 = m1 - m2 + d2 ∧ benB 2 n1 n2 = n1 - n2 by simp [benT, benB])
    go_enter Tryz.func161, Tryz.ntmps161
    go_wp2
    rw [HW.out]
    refine wp_region_past (by kernel_rfl) (by kernel_rfl) ?_
    repeat (go_big_quiet_step (fail))
    refine wpQuiet_nil ?_
    rintro _ ⟨y, rfl⟩
    go_wp2
    go_ret2
    exact ⟨by rw [Q.out.1, Q.out.2]; rfl, hbW.trans (y.2.mono hbW.size)⟩
  have Q := Lib.hid (show benT kind m1 m2 d2 = d2 ∧ benB kind n1 n2 = n1 - n2 by simp [benT, benB, h0, h1, h2])
  go_enter Tryz.func161, Tryz.ntmps161
  go_wp2
  rw [HW.out]
  refine wp_region_past (by kernel_rfl) (by kernel_rfl) ?_
  repeat (go_big_quiet_step (fail))
  refine wpQuiet_nil ?_
  rintro _ ⟨y, rfl⟩
  go_wp2
  go_ret2
  exact ⟨by rw [Q.out.1, Q.out.2]; rfl, hbW.trans (y.2.mono hbW.size)⟩

end Go.Proofs.YtkdfdbcpbgganaaGreatDoor
end

/- What assurances are priced by, premiums: the program's contracts. -/
section
namespace Go.Proofs.YtkdfdbcpbgganaaGreatDoor
open Go.RowKit Go.BigFrame

theorem PriceParts.size : (Tryz.prog.info? 60).map (·.size) = some 3 := by kernel_rfl
theorem ben_top {b : Bas} {kind age n : Int} (h1 : b.first ≤ age) (hn : 0 ≤ n) : benT kind (mC b.lives b.rate (b.ix age)) (mC b.lives b.rate (b.ix (age + n))) (dC b.lives b.rate (b.ix (age + n))) = b.top kind age n ∧ benB kind (nC b.lives b.rate (b.ix age)) (nC b.lives b.rate (b.ix (age + n))) = b.base kind age n := by
  have e : b.ix (age + n) = b.ix age + n.toNat := by unfold Bas.ix; omega
  rw [e]
  exact ⟨rfl, rfl⟩

set_option maxHeartbeats 4000000 in
theorem impl_checkAssurance_any (b : Bas) (A : Option Addr) (n cap : Nat) (p : Policy) (w : World) (hB : BasT w A n cap b) (hp : polB b p = true) :
    Calls Tryz.prog 141 #[.agg #[.int .i64 b.first, .slice A n cap], .int .i64 b.rate, .int .i64 p.kind, .int .i64 p.age, .int .i64 p.years, .int .i64 p.sum] w fun e w' =>
      e = .returned (.tuple #[.agg #[.int .i64 (b.top p.kind p.age p.years), .int .i64 (b.d p.age), .int .i64 (b.base p.kind p.age p.years)], .int .i64 0]) ∧ Below w.heap.size w w' := by
  have hbw := boxes_below (w := w) (X := [.int .i64 b.first, .slice A n cap]) (Y := [.int .i64 0, .int .i64 0, .int .i64 0]) (tx := 26) (ty := 60)
  have HB := Lib.hid ((Blk.new w 26 #[.int .i64 b.first, .slice A n cap]).alloc (.cells #[.int .i64 0, .int .i64 0, .int .i64 0] 60))
  have HR := Lib.hid (Blk.new (w.alloc (.cells #[.int .i64 b.first, .slice A n cap] 26)) 60 #[.int .i64 0, .int .i64 0, .int .i64 0])
  rw [World.size_alloc] at HR
  have HBT := Lib.hid (hB.past hbw); clear hB
  have P := pol_ok hp
  have hpp := hp
  simp only [polB, basisB, Bool.and_eq_true] at hpp
  have HPP := Lib.hid hpp; clear hpp
  have a1 := P.age0; have a2 := P.age1; have y1 := P.yrs0; have y2 := P.yrs1; have e1 := P.end1; have f1 := P.tab.first0; have f2 := P.tab.first1
  have hd := d_age P
  have HPO := Lib.hid P; clear P
  have QB := Lib.hid (ben_top (b := b) (kind := p.kind) (age := p.age) (n := p.years) a1 y1)
  obtain ⟨k, hk⟩ := Int.eq_ofNat_of_zero_le (show 0 ≤ p.age - b.first by omega)
  obtain ⟨m, hm⟩ := Int.eq_ofNat_of_zero_le (show 0 ≤ p.age + p.years - b.first by omega)
  have HE0 := Lib.hid (show b.ix p.age = k by unfold Bas.ix; omega)
  have HE1 := Lib.hid (show b.ix (p.age + p.years) = m by unfold Bas.ix; omega)
  have QD := Lib.hid (show b.d p.age = dC b.lives b.rate k by unfold Bas.d; rw [HE0.out])
  rw [HE0.out, HE1.out] at QB
  rw [QD.out] at hd
  have hkt : k < (151 - b.first).toNat := by omega
  have hmt : m < (151 - b.first).toNat := by omega
  have htop : (((151 - b.first).toNat : Nat) : Int) = 151 - b.first := by omega
  obtain ⟨top, htp⟩ : ∃ top, (151 - b.first).toNat = top := ⟨_, rfl⟩
  rw [htp] at hkt hmt htop
  have HTP := Lib.hid htp; clear htp
  have hki : (k : Int) < (top : Int) := by omega
  have hmi : (m : Int) < (top : Int) := by omega
  clear htop
  go_enter Tryz.func141, Tryz.ntmps141
  go_wp2_with fail
  refine (impl_IsLifeTable_any b.first A n cap b.lives _ HBT.out.lives HBT.out.cap HBT.out.first).mono ?_
  rw [HPP.out.1.1]
  rintro e w1 ⟨rfl, hb1⟩
  have HB1 := Lib.hid (HB.out.below' hb1)
  have HR1 := Lib.hid (HR.out.below' hb1)
  have HBT1 := Lib.hid (HBT.out.past hb1)
  have hbw1 := hbw.trans (hb1.mono hbw.size)
  have hcT := Lib.hid (Blk.agg (cs := [.int .i64 b.first, .slice A n cap]) HB1.out 0 [.int .i64 b.first, .slice A n cap] rfl)
  go_wp2_with (refine wpList_load_agg rfl 26 _ rfl ⟨w.heap.size, 0, none⟩ rfl [.int .i64 b.first, .slice A n cap] hcT.out _ Tryz.underlying26 rfl Tab.size ?_)
  clear hcT
  refine (impl_isAssurance_any b A n cap p.kind p.age p.years p.sum _ ⟨by omega, by omega⟩).mono ?_
  rw [HPP.out.2.1]
  rintro e w2 ⟨rfl, hb2⟩
  have HB2 := Lib.hid (HB1.out.below' hb2)
  have HR2 := Lib.hid (HR1.out.below' hb2)
  have HBT2 := Lib.hid (HBT1.out.past hb2)
  have hbw2 := hbw1.trans (hb2.mono hbw1.size)
  have hcT := Lib.hid (Blk.agg (cs := [.int .i64 b.first, .slice A n cap]) HB2.out 0 [.int .i64 b.first, .slice A n cap] rfl)
  go_wp2_with (refine wpList_load_agg rfl 26 _ rfl ⟨w.heap.size, 0, none⟩ rfl [.int .i64 b.first, .slice A n cap] hcT.out _ Tryz.underlying26 rfl Tab.size ?_)
  clear hcT
  refine (impl_columnsOf_any b.first A n cap b.lives b.rate _ HBT2.out.lives HPO.out.tab ⟨HPO.out.rate0, HPO.out.rate1⟩).mono ?_
  rw [HTP.out]
  rintro e w3 ⟨g, rfl, hL, hb3⟩
  have HB3 := Lib.hid (HB2.out.below' hb3)
  have HR3 := Lib.hid (HR2.out.below' hb3)
  have hbw3 := hbw2.trans (hb3.mono hbw2.size)
  obtain ⟨ad, had0, hadB, _, hc1⟩ := hL.at' (colRows_get (xs := b.lives) (rate := b.rate) hkt)
  obtain ⟨ad', had1, _, _, hc2⟩ := hL.at' (colRows_get (xs := b.lives) (rate := b.rate) hmt)
  obtain rfl : ad' = ad := by rw [had0] at had1; injection had1 with had1; exact had1.symm
  rw [had0] at *
  have b0 : w3.cell? ⟨w.heap.size, 0, none⟩ = some (.int .i64 b.first) := HB3.out.cell 0
  have u0 : w3.cell? (ad'.add (k * 4)) = some (.int .i64 (dC b.lives b.rate k)) := by have := hc1 0 _ rfl; rwa [Addr.add_zero'] at this
  have u1 : w3.cell? ⟨(ad'.add (k * 4)).block, (ad'.add (k * 4)).off + 1, none⟩ = some (.int .i64 (nC b.lives b.rate k)) := hc1 1 _ rfl
  have u2 : w3.cell? ⟨(ad'.add (k * 4)).block, (ad'.add (k * 4)).off + 2, none⟩ = some (.int .i64 (cC b.lives b.rate k)) := hc1 2 _ rfl
  have u3 : w3.cell? ⟨(ad'.add (k * 4)).block, (ad'.add (k * 4)).off + 3, none⟩ = some (.int .i64 (mC b.lives b.rate k)) := hc1 3 _ rfl
  have v0 : w3.cell? (ad'.add (m * 4)) = some (.int .i64 (dC b.lives b.rate m)) := by have := hc2 0 _ rfl; rwa [Addr.add_zero'] at this
  have v1 : w3.cell? ⟨(ad'.add (m * 4)).block, (ad'.add (m * 4)).off + 1, none⟩ = some (.int .i64 (nC b.lives b.rate m)) := hc2 1 _ rfl
  have v2 : w3.cell? ⟨(ad'.add (m * 4)).block, (ad'.add (m * 4)).off + 2, none⟩ = some (.int .i64 (cC b.lives b.rate m)) := hc2 2 _ rfl
  have v3 : w3.cell? ⟨(ad'.add (m * 4)).block, (ad'.add (m * 4)).off + 3, none⟩ = some (.int .i64 (mC b.lives b.rate m)) := hc2 3 _ rfl
  clear hc1 hc2
  have hs3 : w.heap.size < w3.heap.size := HB3.out.lt
  have hs4 : w.heap.size + 1 < w3.heap.size := HR3.out.lt
  have hs5 : (ad'.add (k * 4)).block < w3.heap.size := by rw [block_of_add]; exact hadB
  have hs6 : (ad'.add (m * 4)).block < w3.heap.size := by rw [block_of_add]; exact hadB
  have hk0 : 0 ≤ (k : Int) := by omega
  have hm0 : 0 ≤ (m : Int) := by omega
  go_wp2
  go_region
  · obtain ⟨w4, hw4⟩ : ∃ w4, ((w3.alloc (.cells #[.int .i64 (dC b.lives b.rate k), .int .i64 (nC b.lives b.rate k), .int .i64 (cC b.lives b.rate k), .int .i64 (mC b.lives b.rate k)] 101)).alloc (.cells #[.int .i64 (dC b.lives b.rate m), .int .i64 (nC b.lives b.rate m), .int .i64 (cC b.lives b.rate m), .int .i64 (mC b.lives b.rate m)] 101)).drew = w4 := ⟨_, rfl⟩
    have Hf := Lib.hid (((Blk.new w3 101 #[.int .i64 (dC b.lives b.rate k), .int .i64 (nC b.lives b.rate k), .int .i64 (cC b.lives b.rate k), .int .i64 (mC b.lives b.rate k)]).alloc (.cells #[.int .i64 (dC b.lives b.rate m), .int .i64 (nC b.lives b.rate m), .int .i64 (cC b.lives b.rate m), .int .i64 (mC b.lives b.rate m)] 101)).drew)
    have Hs := Lib.hid ((Blk.new (w3.alloc (.cells #[.int .i64 (dC b.lives b.rate k), .int .i64 (nC b.lives b.rate k), .int .i64 (cC b.lives b.rate k), .int .i64 (mC b.lives b.rate k)] 101)) 101 #[.int .i64 (dC b.lives b.rate m), .int .i64 (nC b.lives b.rate m), .int .i64 (cC b.lives b.rate m), .int .i64 (mC b.lives b.rate m)]).drew)
    rw [World.size_alloc] at Hs
    have HR4 := Lib.hid (((HR3.out.alloc (.cells #[.int .i64 (dC b.lives b.rate k), .int .i64 (nC b.lives b.rate k), .int .i64 (cC b.lives b.rate k), .int .i64 (mC b.lives b.rate k)] 101)).alloc (.cells #[.int .i64 (dC b.lives b.rate m), .int .i64 (nC b.lives b.rate m), .int .i64 (cC b.lives b.rate m), .int .i64 (mC b.lives b.rate m)] 101)).drew)
    have hb4 : Below w3.heap.size w3 w4 := by rw [← hw4]; exact (((Below.refl _ w3).alloc (Nat.le_refl _) _).alloc (by simp) _).drew
    rw [hw4] at Hf Hs HR4
    rw [hw4]
    clear hw4 u0 u1 u2 u3 v0 v1 v2 v3 b0
    have n0 : w4.cell? ⟨w3.heap.size, 0, none⟩ = some (.int .i64 (dC b.lives b.rate k)) := Hf.out.cell 0
    have hcN := Lib.hid (Blk.agg (cs := [.int .i64 (dC b.lives b.rate k), .int .i64 (nC b.lives b.rate k), .int .i64 (cC b.lives b.rate k), .int .i64 (mC b.lives b.rate k)]) Hf.out 0 [.int .i64 (dC b.lives b.rate k), .int .i64 (nC b.lives b.rate k), .int .i64 (cC b.lives b.rate k), .int .i64 (mC b.lives b.rate k)] rfl)
    have hcL := Lib.hid (Blk.agg (cs := [.int .i64 (dC b.lives b.rate m), .int .i64 (nC b.lives b.rate m), .int .i64 (cC b.lives b.rate m), .int .i64 (mC b.lives b.rate m)]) Hs.out 0 [.int .i64 (dC b.lives b.rate m), .int .i64 (nC b.lives b.rate m), .int .i64 (cC b.lives b.rate m), .int .i64 (mC b.lives b.rate m)] rfl)
    have hdz : ¬ dC b.lives b.rate k = 0 := by omega
    have z1 := nC_bound HPO.out.tab HPO.out.rate0 k; have z2 := mC_bound HPO.out.tab HPO.out.rate0 k; have z3 := nC_bound HPO.out.tab HPO.out.rate0 m; have z4 := mC_bound HPO.out.tab HPO.out.rate0 m; have z5 := dC_bound HPO.out.tab HPO.out.rate0 k; have z6 := dC_bound HPO.out.tab HPO.out.rate0 m
    go_wp2_with (first | (refine wpList_load_agg rfl 101 _ rfl ⟨w3.heap.size, 0, none⟩ rfl [.int .i64 (dC b.lives b.rate k), .int .i64 (nC b.lives b.rate k), .int .i64 (cC b.lives b.rate k), .int .i64 (mC b.lives b.rate k)] hcN.out _ Tryz.underlying101 rfl Columns.size ?_) | (refine wpList_load_agg rfl 101 _ rfl ⟨(w3.heap.size + 1), 0, none⟩ rfl [.int .i64 (dC b.lives b.rate m), .int .i64 (nC b.lives b.rate m), .int .i64 (cC b.lives b.rate m), .int .i64 (mC b.lives b.rate m)] hcL.out _ Tryz.underlying101 rfl Columns.size ?_))
    refine (impl_benefits_any p.kind (dC b.lives b.rate k) (nC b.lives b.rate k) (cC b.lives b.rate k) (mC b.lives b.rate k) (dC b.lives b.rate m) (nC b.lives b.rate m) (cC b.lives b.rate m) (mC b.lives b.rate m) _ ⟨by omega, by omega⟩ ⟨by omega, by omega⟩ ⟨by omega, by omega⟩ ⟨by omega, by omega⟩ ⟨by omega, by omega⟩).mono ?_
    rw [QB.out.1, QB.out.2]
    rintro e w5 ⟨rfl, hb5⟩
    have HN5 := Lib.hid (Hf.out.below' hb5)
    have HR5 := Lib.hid (HR4.out.below' hb5)
    have n5 : w5.cell? ⟨w3.heap.size, 0, none⟩ = some (.int .i64 (dC b.lives b.rate k)) := HN5.out.cell 0
    clear n0 hcN hcL
    have H1c : Hid (∀ v ∈ ([.int .i64 (b.top p.kind p.age p.years), .int .i64 (dC b.lives b.rate k), .int .i64 (b.base p.kind p.age p.years)] : List Value), v.oneCell' = true) := Lib.hid (by simp [Value.oneCell'])
    go_wp2_with (refine wpList_store_agg rfl 60 _ _ rfl (w.heap.size + 1) 0 [.int .i64 (b.top p.kind p.age p.years), .int .i64 (dC b.lives b.rate k), .int .i64 (b.base p.kind p.age p.years)] rfl rfl 60 #[.int .i64 0, .int .i64 0, .int .i64 0] HR5.out PriceParts.size (by simp) H1c.out ?_)
    intro w6 hR6 hg6 _
    have hR6' : Blk w6 (w.heap.size + 1) 60 #[.int .i64 (b.top p.kind p.age p.years), .int .i64 (dC b.lives b.rate k), .int .i64 (b.base p.kind p.age p.years)] := hR6
    have r0 : w6.cell? ⟨w.heap.size + 1, 0, none⟩ = some (.int .i64 (b.top p.kind p.age p.years)) := hR6'.cell 0
    have r1 : w6.cell? ⟨w.heap.size + 1, 1, none⟩ = some (.int .i64 (dC b.lives b.rate k)) := hR6'.cell 1
    have r2 : w6.cell? ⟨w.heap.size + 1, 2, none⟩ = some (.int .i64 (b.base p.kind p.age p.years)) := hR6'.cell 2
    go_wp2
    have hx : Below w.heap.size w w5 := hbw3.trans ((hb4.mono hbw3.size).trans (hb5.mono (Nat.le_trans hbw3.size hb4.size)))
    refine bodyPost_ret (v := .tuple #[.agg #[.int .i64 (b.top p.kind p.age p.years), .int .i64 (dC b.lives b.rate k), .int .i64 (b.base p.kind p.age p.years)], .int .i64 0]) (by simp [results, Tryz.results141, go_sem, r0, r1, r2]) rfl ⟨by rw [QD.out], hx.grown hg6 hx.size (fun k hk => by injection hk with hk; omega)⟩
  · obtain ⟨w4, hw4⟩ : ∃ w4, ((w3.alloc (.cells #[.int .i64 (dC b.lives b.rate m), .int .i64 (nC b.lives b.rate m), .int .i64 (cC b.lives b.rate m), .int .i64 (mC b.lives b.rate m)] 101)).alloc (.cells #[.int .i64 (dC b.lives b.rate k), .int .i64 (nC b.lives b.rate k), .int .i64 (cC b.lives b.rate k), .int .i64 (mC b.lives b.rate k)] 101)).drew = w4 := ⟨_, rfl⟩
    have Hf := Lib.hid (((Blk.new w3 101 #[.int .i64 (dC b.lives b.rate m), .int .i64 (nC b.lives b.rate m), .int .i64 (cC b.lives b.rate m), .int .i64 (mC b.lives b.rate m)]).alloc (.cells #[.int .i64 (dC b.lives b.rate k), .int .i64 (nC b.lives b.rate k), .int .i64 (cC b.lives b.rate k), .int .i64 (mC b.lives b.rate k)] 101)).drew)
    have Hs := Lib.hid ((Blk.new (w3.alloc (.cells #[.int .i64 (dC b.lives b.rate m), .int .i64 (nC b.lives b.rate m), .int .i64 (cC b.lives b.rate m), .int .i64 (mC b.lives b.rate m)] 101)) 101 #[.int .i64 (dC b.lives b.rate k), .int .i64 (nC b.lives b.rate k), .int .i64 (cC b.lives b.rate k), .int .i64 (mC b.lives b.rate k)]).drew)
    rw [World.size_alloc] at Hs
    have HR4 := Lib.hid (((HR3.out.alloc (.cells #[.int .i64 (dC b.lives b.rate m), .int .i64 (nC b.lives b.rate m), .int .i64 (cC b.lives b.rate m), .int .i64 (mC b.lives b.rate m)] 101)).alloc (.cells #[.int .i64 (dC b.lives b.rate k), .int .i64 (nC b.lives b.rate k), .int .i64 (cC b.lives b.rate k), .int .i64 (mC b.lives b.rate k)] 101)).drew)
    have hb4 : Below w3.heap.size w3 w4 := by rw [← hw4]; exact (((Below.refl _ w3).alloc (Nat.le_refl _) _).alloc (by simp) _).drew
    rw [hw4] at Hf Hs HR4
    rw [hw4]
    clear hw4 u0 u1 u2 u3 v0 v1 v2 v3 b0
    have n0 : w4.cell? ⟨(w3.heap.size + 1), 0, none⟩ = some (.int .i64 (dC b.lives b.rate k)) := Hs.out.cell 0
    have hcN := Lib.hid (Blk.agg (cs := [.int .i64 (dC b.lives b.rate k), .int .i64 (nC b.lives b.rate k), .int .i64 (cC b.lives b.rate k), .int .i64 (mC b.lives b.rate k)]) Hs.out 0 [.int .i64 (dC b.lives b.rate k), .int .i64 (nC b.lives b.rate k), .int .i64 (cC b.lives b.rate k), .int .i64 (mC b.lives b.rate k)] rfl)
    have hcL := Lib.hid (Blk.agg (cs := [.int .i64 (dC b.lives b.rate m), .int .i64 (nC b.lives b.rate m), .int .i64 (cC b.lives b.rate m), .int .i64 (mC b.lives b.rate m)]) Hf.out 0 [.int .i64 (dC b.lives b.rate m), .int .i64 (nC b.lives b.rate m), .int .i64 (cC b.lives b.rate m), .int .i64 (mC b.lives b.rate m)] rfl)
    have hdz : ¬ dC b.lives b.rate k = 0 := by omega
    have z1 := nC_bound HPO.out.tab HPO.out.rate0 k; have z2 := mC_bound HPO.out.tab HPO.out.rate0 k; have z3 := nC_bound HPO.out.tab HPO.out.rate0 m; have z4 := mC_bound HPO.out.tab HPO.out.rate0 m; have z5 := dC_bound HPO.out.tab HPO.out.rate0 k; have z6 := dC_bound HPO.out.tab HPO.out.rate0 m
    go_wp2_with (first | (refine wpList_load_agg rfl 101 _ rfl ⟨(w3.heap.size + 1), 0, none⟩ rfl [.int .i64 (dC b.lives b.rate k), .int .i64 (nC b.lives b.rate k), .int .i64 (cC b.lives b.rate k), .int .i64 (mC b.lives b.rate k)] hcN.out _ Tryz.underlying101 rfl Columns.size ?_) | (refine wpList_load_agg rfl 101 _ rfl ⟨w3.heap.size, 0, none⟩ rfl [.int .i64 (dC b.lives b.rate m), .int .i64 (nC b.lives b.rate m), .int .i64 (cC b.lives b.rate m), .int .i64 (mC b.lives b.rate m)] hcL.out _ Tryz.underlying101 rfl Columns.size ?_))
    refine (impl_benefits_any p.kind (dC b.lives b.rate k) (nC b.lives b.rate k) (cC b.lives b.rate k) (mC b.lives b.rate k) (dC b.lives b.rate m) (nC b.lives b.rate m) (cC b.lives b.rate m) (mC b.lives b.rate m) _ ⟨by omega, by omega⟩ ⟨by omega, by omega⟩ ⟨by omega, by omega⟩ ⟨by omega, by omega⟩ ⟨by omega, by omega⟩).mono ?_
    rw [QB.out.1, QB.out.2]
    rintro e w5 ⟨rfl, hb5⟩
    have HN5 := Lib.hid (Hs.out.below' hb5)
    have HR5 := Lib.hid (HR4.out.below' hb5)
    have n5 : w5.cell? ⟨(w3.heap.size + 1), 0, none⟩ = some (.int .i64 (dC b.lives b.rate k)) := HN5.out.cell 0
    clear n0 hcN hcL
    have H1c : Hid (∀ v ∈ ([.int .i64 (b.top p.kind p.age p.years), .int .i64 (dC b.lives b.rate k), .int .i64 (b.base p.kind p.age p.years)] : List Value), v.oneCell' = true) := Lib.hid (by simp [Value.oneCell'])
    go_wp2_with (refine wpList_store_agg rfl 60 _ _ rfl (w.heap.size + 1) 0 [.int .i64 (b.top p.kind p.age p.years), .int .i64 (dC b.lives b.rate k), .int .i64 (b.base p.kind p.age p.years)] rfl rfl 60 #[.int .i64 0, .int .i64 0, .int .i64 0] HR5.out PriceParts.size (by simp) H1c.out ?_)
    intro w6 hR6 hg6 _
    have hR6' : Blk w6 (w.heap.size + 1) 60 #[.int .i64 (b.top p.kind p.age p.years), .int .i64 (dC b.lives b.rate k), .int .i64 (b.base p.kind p.age p.years)] := hR6
    have r0 : w6.cell? ⟨w.heap.size + 1, 0, none⟩ = some (.int .i64 (b.top p.kind p.age p.years)) := hR6'.cell 0
    have r1 : w6.cell? ⟨w.heap.size + 1, 1, none⟩ = some (.int .i64 (dC b.lives b.rate k)) := hR6'.cell 1
    have r2 : w6.cell? ⟨w.heap.size + 1, 2, none⟩ = some (.int .i64 (b.base p.kind p.age p.years)) := hR6'.cell 2
    go_wp2
    have hx : Below w.heap.size w w5 := hbw3.trans ((hb4.mono hbw3.size).trans (hb5.mono (Nat.le_trans hbw3.size hb4.size)))
    refine bodyPost_ret (v := .tuple #[.agg #[.int .i64 (b.top p.kind p.age p.years), .int .i64 (dC b.lives b.rate k), .int .i64 (b.base p.kind p.age p.years)], .int .i64 0]) (by simp [results, Tryz.results141, go_sem, r0, r1, r2]) rfl ⟨by rw [QD.out], hx.grown hg6 hx.size (fun k hk => by injection hk with hk; omega)⟩

end Go.Proofs.YtkdfdbcpbgganaaGreatDoor
end

/- Premiums, durations, whether policies are valid: the program's contracts. -/
section
namespace Go.Proofs.YtkdfdbcpbgganaaGreatDoor
open Go.RowKit Go.BigFrame

theorem run_field_D (d n c m : Int) (W : World) : (Instr.field 101 (.agg #[.int .i64 d, .int .i64 n, .int .i64 c, .int .i64 m]) 0).run Tryz.prog W = .ok (.int .i64 d) W := by
  simp [Instr.field, Sem.run_bind, run_underlying Tryz.underlying101, go_sem]
  rfl
theorem impl_Basis_at_lit (b : Bas) (A : Option Addr) (n cap : Nat) (L : Option Addr) (top lc : Nat) (age : Int) (w : World) (hR : Rd w w.heap.size L 4 (colRows b.lives b.rate top)) (hf : 0 ≤ b.first ∧ b.first ≤ 100) (ha : b.first ≤ age ∧ age ≤ 1000) (hk : b.ix age < top) (ht : top ≤ 1000) (d m c l : Int)
    (hd : b.d age = d) (hm : nC b.lives b.rate (b.ix age) = m) (hc : cC b.lives b.rate (b.ix age) = c) (hl : mC b.lives b.rate (b.ix age) = l) :
    Calls Tryz.prog 90 #[.agg #[.int .i64 b.first, .slice A n cap, .int .i64 b.rate], .slice L top lc, .int .i64 age] w fun e w' => e = .returned (.agg #[.int .i64 d, .int .i64 m, .int .i64 c, .int .i64 l]) ∧ Below w.heap.size w w' := by
  subst hd hm hc hl
  exact impl_Basis_at_any b A n cap L top lc age w hR hf ha hk ht

set_option maxHeartbeats 2000000 in
theorem impl_LevelPremium_any (b : Bas) (A : Option Addr) (n cap : Nat) (p : Policy) (w : World) (hB : BasT w A n cap b) (hp : polB b p = true) :
    Calls Tryz.prog 119 #[.agg #[.int .i64 b.first, .slice A n cap], .int .i64 b.rate, .int .i64 p.kind, .int .i64 p.age, .int .i64 p.years, .int .i64 p.sum] w fun e w' =>
      e = .returned (.tuple #[.int .i64 (netP b p), .int .i64 0]) ∧ Below w.heap.size w w' := by
  have hbw : Below w.heap.size w (w.alloc (.cells #[.int .i64 b.first, .slice A n cap] 26)) := (Below.refl _ w).alloc (Nat.le_refl _) _
  have HBT := Lib.hid (hB.past hbw); clear hB
  have P := pol_ok hp
  have Q := Lib.hid (show netP b p = upP p.sum (b.top p.kind p.age p.years) (b.base p.kind p.age p.years) from rfl)
  have t1 := top_bound P.toBasOk p.kind p.age p.years
  have t2 := base_bound P.toBasOk p.kind p.age p.years P.yrs1
  have t3 := base_pos P.toBasOk p.kind p.age p.years (kind_or P)
  have t4 := d_age P
  have t5 := d_bound P.toBasOk p.age
  have s1 := P.sum0; have s2 := P.sum1
  have t6 := mul_div_le (a := p.sum) (m := 1) (by omega) t1.1 (show 1 ≤ b.base p.kind p.age p.years by omega) (by omega)
  go_enter Tryz.func119, Tryz.ntmps119
  go_wp2_with fail
  refine (impl_checkAssurance_any b A n cap p _ HBT.out hp).mono ?_
  rintro e w1 ⟨rfl, hb1⟩
  go_wp2_with fail
  refine (impl_priced_any p.sum (b.top p.kind p.age p.years) (b.base p.kind p.age p.years) _ ⟨by omega, by omega⟩ ⟨by omega, by omega⟩ ⟨by omega, by omega⟩ (by omega)).mono ?_
  rintro e w2 ⟨rfl, hb2⟩
  go_wp2
  go_ret2
  exact ⟨by rw [Q.out]; rfl, hbw.trans ((hb1.mono (by simp)).trans (((Below.refl _ w1).alloc (Nat.le_refl _) _).trans (hb2.mono (by simp)) |>.mono (by have := hb1.size; simp at this; omega)))⟩


set_option maxHeartbeats 2000000 in
theorem impl_netPremium_any (b : Bas) (A : Option Addr) (n cap : Nat) (p : Policy) (w : World) (hB : BasT w A n cap b) (hp : polB b p = true) :
    Calls Tryz.prog 91 #[.agg #[.int .i64 b.first, .slice A n cap, .int .i64 b.rate], .agg p.row.toArray] w fun e w' => e = .returned (.int .i64 (netP b p)) ∧ Below w.heap.size w w' := by
  have hbw := boxes_below (w := w) (X := b.row A n cap) (Y := p.row) (tx := 40) (ty := 42)
  have HB := Lib.hid ((Blk.new w 40 (b.row A n cap).toArray).alloc (.cells p.row.toArray 42))
  have HP := Lib.hid (Blk.new (w.alloc (.cells (b.row A n cap).toArray 40)) 42 p.row.toArray)
  rw [World.size_alloc] at HP
  unfold Bas.row Policy.row at *
  have HBT := Lib.hid (hB.past hbw); clear hB
  go_enter Tryz.func91, Tryz.ntmps91
  go_wp2_with fail
  refine (impl_LevelPremium_any b A n cap p _ HBT.out hp).mono ?_
  rintro e w1 ⟨rfl, hb1⟩
  go_wp2
  go_ret
  exact ⟨rfl, hbw.trans (hb1.mono hbw.size)⟩


set_option maxHeartbeats 2000000 in
theorem impl_officePremium_any (b : Bas) (A : Option Addr) (n cap : Nat) (p : Policy) (w : World) (hB : BasT w A n cap b) (hp : polB b p = true) :
    Calls Tryz.prog 55 #[.agg #[.int .i64 b.first, .slice A n cap, .int .i64 b.rate], .agg p.row.toArray] w fun e w' => e = .returned (.int .i64 (officeP b p)) ∧ Below w.heap.size w w' := by
  have hbw := boxes_below (w := w) (X := b.row A n cap) (Y := p.row) (tx := 40) (ty := 42)
  have HB := Lib.hid ((Blk.new w 40 (b.row A n cap).toArray).alloc (.cells p.row.toArray 42))
  have HP := Lib.hid (Blk.new (w.alloc (.cells (b.row A n cap).toArray 40)) 42 p.row.toArray)
  rw [World.size_alloc] at HP
  unfold Bas.row Policy.row at *
  have HBT := Lib.hid (hB.past hbw); clear hB
  have P := pol_ok hp
  have Q := Lib.hid (show officeP b p = netP b p + ceilDiv (netP b p * p.load) 1000 from rfl)
  obtain ⟨o1, o2, o3, o4⟩ := office_bound P
  obtain ⟨n1, n2⟩ := net_bound P
  have hcd := ceil_bound o1
  obtain ⟨e1, e2⟩ := hcd
  go_enter Tryz.func55, Tryz.ntmps55
  go_wp2_with fail
  refine (impl_netPremium_any b A n cap p _ HBT.out hp).mono ?_
  rintro e w1 ⟨rfl, hb1⟩
  have HB1 := Lib.hid (HB.out.below' hb1)
  have HP1 := Lib.hid (HP.out.below' hb1)
  have cp4 : w1.cell? ⟨w.heap.size + 1, 4, none⟩ = some (.int .i64 p.load) := HP1.out.cell 4
  go_wp2_with (first | (go_at_call 92; refine (impl_up_any _ _ _ (by omega) (by omega) (by omega) (by omega)).mono ?_; rintro e w' ⟨rfl, rfl⟩))
  go_ret
  exact ⟨by rw [Q.out]; rfl, hbw.trans (hb1.mono hbw.size)⟩


set_option maxRecDepth 100000 in
set_option maxHeartbeats 6000000 in
theorem impl_IsPolicy_any (b : Bas) (A : Option Addr) (n cap : Nat) (p : Policy) (w : World) (hB : BasT w A n cap b) (_hp : p.fits) :
    Calls Tryz.prog 54 #[.agg #[.int .i64 b.first, .slice A n cap, .int .i64 b.rate], .agg p.row.toArray] w fun e w' => e = .returned (.bool (polB b p)) ∧ Below w.heap.size w w' := by
  have hbw := boxes_below (w := w) (X := b.row A n cap) (Y := p.row) (tx := 40) (ty := 42)
  have HB := Lib.hid ((Blk.new w 40 (b.row A n cap).toArray).alloc (.cells p.row.toArray 42))
  have HP := Lib.hid (Blk.new (w.alloc (.cells (b.row A n cap).toArray 40)) 42 p.row.toArray)
  rw [World.size_alloc] at HP
  unfold Bas.row Policy.row at *
  have HBT := Lib.hid (hB.past hbw); clear hB
  cases h1 : basisB b
  · have Q := Lib.hid (show polB b p = false by simp [polB, h1])
    go_enter Tryz.func54, Tryz.ntmps54
    go_wp2_with fail
    refine (impl_IsBasis_any b A n cap _ HBT.out).mono ?_
    rw [h1]
    rintro e w1 ⟨rfl, hb1⟩
    go_wp2
    go_ret
    exact ⟨by rw [Q.out]; rfl, hbw.trans (hb1.mono hbw.size)⟩
  have HOK := Lib.hid (basis_ok h1)
  have f1 := HOK.out.tab.first0; have f2 := HOK.out.tab.first1
  cases h2 : assurB b p.kind p.age p.years p.sum
  · have Q := Lib.hid (show polB b p = false by simp [polB, h1, h2])
    go_enter Tryz.func54, Tryz.ntmps54
    go_wp2_with fail
    refine (impl_IsBasis_any b A n cap _ HBT.out).mono ?_
    rw [h1]
    rintro e w1 ⟨rfl, hb1⟩
    have HB1 := Lib.hid (HB.out.below' hb1)
    have HP1 := Lib.hid (HP.out.below' hb1)
    have cb0 : w1.cell? ⟨w.heap.size, 0, none⟩ = some (.int .i64 b.first) := HB1.out.cell 0
    have cb1 : w1.cell? ⟨w.heap.size, 1, none⟩ = some (.slice A n cap) := HB1.out.cell 1
    have cb2 : w1.cell? ⟨w.heap.size, 2, none⟩ = some (.int .i64 b.rate) := HB1.out.cell 2
    have cp0 : w1.cell? ⟨w.heap.size + 1, 0, none⟩ = some (.int .i64 p.kind) := HP1.out.cell 0
    have cp1 : w1.cell? ⟨w.heap.size + 1, 1, none⟩ = some (.int .i64 p.age) := HP1.out.cell 1
    have cp2 : w1.cell? ⟨w.heap.size + 1, 2, none⟩ = some (.int .i64 p.years) := HP1.out.cell 2
    have cp3 : w1.cell? ⟨w.heap.size + 1, 3, none⟩ = some (.int .i64 p.sum) := HP1.out.cell 3
    have cp4 : w1.cell? ⟨w.heap.size + 1, 4, none⟩ = some (.int .i64 p.load) := HP1.out.cell 4
    have hcT := Lib.hid (Blk.agg (cs := [.int .i64 b.first, .slice A n cap, .int .i64 b.rate]) HB1.out 0 [.int .i64 b.first, .slice A n cap] rfl)
    have hcB := Lib.hid (Blk.agg (cs := [.int .i64 b.first, .slice A n cap, .int .i64 b.rate]) HB1.out 0 [.int .i64 b.first, .slice A n cap, .int .i64 b.rate] rfl)
    have hcP := Lib.hid (Blk.agg (cs := [.int .i64 p.kind, .int .i64 p.age, .int .i64 p.years, .int .i64 p.sum, .int .i64 p.load]) HP1.out 0 [.int .i64 p.kind, .int .i64 p.age, .int .i64 p.years, .int .i64 p.sum, .int .i64 p.load] rfl)
    go_wp2_with (first | (refine wpList_load_agg rfl 26 _ rfl ⟨w.heap.size, 0, none⟩ rfl [.int .i64 b.first, .slice A n cap] hcT.out _ Tryz.underlying26 rfl Tab.size ?_))
    refine (impl_isAssurance_any b A n cap p.kind p.age p.years p.sum _ ⟨by omega, by omega⟩).mono ?_
    rw [h2]
    rintro e w2 ⟨rfl, hb2⟩
    go_wp2
    go_ret
    exact ⟨by rw [Q.out]; rfl, hbw.trans ((below_step hb1 hb2).mono hbw.size)⟩
  have hass := h2
  simp only [assurB, Bool.and_eq_true, inR_true, decide_eq_true_eq] at hass
  obtain ⟨_, _, ⟨a1, a2⟩, _, ⟨y1, y2⟩, e1, _⟩ := hass
  go_enter Tryz.func54, Tryz.ntmps54
  go_wp2_with fail
  refine (impl_IsBasis_any b A n cap _ HBT.out).mono ?_
  rw [h1]
  rintro e w1 ⟨rfl, hb1⟩
  have HB1 := Lib.hid (HB.out.below' hb1)
  have HP1 := Lib.hid (HP.out.below' hb1)
  have cb0 : w1.cell? ⟨w.heap.size, 0, none⟩ = some (.int .i64 b.first) := HB1.out.cell 0
  have cb1 : w1.cell? ⟨w.heap.size, 1, none⟩ = some (.slice A n cap) := HB1.out.cell 1
  have cb2 : w1.cell? ⟨w.heap.size, 2, none⟩ = some (.int .i64 b.rate) := HB1.out.cell 2
  have cp0 : w1.cell? ⟨w.heap.size + 1, 0, none⟩ = some (.int .i64 p.kind) := HP1.out.cell 0
  have cp1 : w1.cell? ⟨w.heap.size + 1, 1, none⟩ = some (.int .i64 p.age) := HP1.out.cell 1
  have cp2 : w1.cell? ⟨w.heap.size + 1, 2, none⟩ = some (.int .i64 p.years) := HP1.out.cell 2
  have cp3 : w1.cell? ⟨w.heap.size + 1, 3, none⟩ = some (.int .i64 p.sum) := HP1.out.cell 3
  have cp4 : w1.cell? ⟨w.heap.size + 1, 4, none⟩ = some (.int .i64 p.load) := HP1.out.cell 4
  have hcT := Lib.hid (Blk.agg (cs := [.int .i64 b.first, .slice A n cap, .int .i64 b.rate]) HB1.out 0 [.int .i64 b.first, .slice A n cap] rfl)
  have hcB := Lib.hid (Blk.agg (cs := [.int .i64 b.first, .slice A n cap, .int .i64 b.rate]) HB1.out 0 [.int .i64 b.first, .slice A n cap, .int .i64 b.rate] rfl)
  have hcP := Lib.hid (Blk.agg (cs := [.int .i64 p.kind, .int .i64 p.age, .int .i64 p.years, .int .i64 p.sum, .int .i64 p.load]) HP1.out 0 [.int .i64 p.kind, .int .i64 p.age, .int .i64 p.years, .int .i64 p.sum, .int .i64 p.load] rfl)
  have HBT1 := Lib.hid (HBT.out.past hb1)
  go_wp2_with (first | (refine wpList_load_agg rfl 26 _ rfl ⟨w.heap.size, 0, none⟩ rfl [.int .i64 b.first, .slice A n cap] hcT.out _ Tryz.underlying26 rfl Tab.size ?_))
  refine (impl_isAssurance_any b A n cap p.kind p.age p.years p.sum _ ⟨by omega, by omega⟩).mono ?_
  rw [h2]
  rintro e w2 ⟨rfl, hb2⟩
  clear cb0 cb1 cb2 cp0 cp1 cp2 cp3 cp4 hcT hcB hcP
  have HB2 := Lib.hid (HB1.out.below' hb2)
  have HP2 := Lib.hid (HP1.out.below' hb2)
  have cb0 : w2.cell? ⟨w.heap.size, 0, none⟩ = some (.int .i64 b.first) := HB2.out.cell 0
  have cb1 : w2.cell? ⟨w.heap.size, 1, none⟩ = some (.slice A n cap) := HB2.out.cell 1
  have cb2 : w2.cell? ⟨w.heap.size, 2, none⟩ = some (.int .i64 b.rate) := HB2.out.cell 2
  have cp0 : w2.cell? ⟨w.heap.size + 1, 0, none⟩ = some (.int .i64 p.kind) := HP2.out.cell 0
  have cp1 : w2.cell? ⟨w.heap.size + 1, 1, none⟩ = some (.int .i64 p.age) := HP2.out.cell 1
  have cp2 : w2.cell? ⟨w.heap.size + 1, 2, none⟩ = some (.int .i64 p.years) := HP2.out.cell 2
  have cp3 : w2.cell? ⟨w.heap.size + 1, 3, none⟩ = some (.int .i64 p.sum) := HP2.out.cell 3
  have cp4 : w2.cell? ⟨w.heap.size + 1, 4, none⟩ = some (.int .i64 p.load) := HP2.out.cell 4
  have hcT := Lib.hid (Blk.agg (cs := [.int .i64 b.first, .slice A n cap, .int .i64 b.rate]) HB2.out 0 [.int .i64 b.first, .slice A n cap] rfl)
  have hcB := Lib.hid (Blk.agg (cs := [.int .i64 b.first, .slice A n cap, .int .i64 b.rate]) HB2.out 0 [.int .i64 b.first, .slice A n cap, .int .i64 b.rate] rfl)
  have hcP := Lib.hid (Blk.agg (cs := [.int .i64 p.kind, .int .i64 p.age, .int .i64 p.years, .int .i64 p.sum, .int .i64 p.load]) HP2.out 0 [.int .i64 p.kind, .int .i64 p.age, .int .i64 p.years, .int .i64 p.sum, .int .i64 p.load] rfl)
  have HBT2 := Lib.hid (HBT1.out.past hb2)
  have hb02 := hbw.trans ((below_step hb1 hb2).mono hbw.size)
  cases h3 : inR p.load 0 1000
  · have Q := Lib.hid (show polB b p = false by simp [polB, h1, h2, h3])
    go_wp2_with (first | (go_at_call 50; refine (impl_inRange_any _ _ _ _).mono ?_; rintro e w' ⟨rfl, rfl⟩))
    go_ret
    exact ⟨by rw [Q.out]; rfl, hb02⟩
  obtain ⟨top, htp⟩ : ∃ top, (151 - b.first).toNat = top := ⟨_, rfl⟩
  have htop1 : (top : Int) ≤ 151 - b.first := by omega
  have htop2 : 151 - b.first ≤ (top : Int) := by omega
  have HTP := Lib.hid htp; clear htp
  go_wp2_with (first | (go_at_call 50; refine (impl_inRange_any _ _ _ _).mono ?_; rintro e w' ⟨rfl, rfl⟩) | (refine wpList_load_agg rfl 26 _ rfl ⟨w.heap.size, 0, none⟩ rfl [.int .i64 b.first, .slice A n cap] hcT.out _ Tryz.underlying26 rfl Tab.size ?_))
  refine (impl_columnsOf_any b.first A n cap b.lives b.rate _ HBT2.out.lives HOK.out.tab ⟨HOK.out.rate0, HOK.out.rate1⟩).mono ?_
  rw [HTP.out]
  rintro e w3 ⟨g, rfl, hL, hb3⟩
  clear cb0 cb1 cb2 cp0 cp1 cp2 cp3 cp4 hcT hcB hcP
  have HB3 := Lib.hid (HB2.out.below' hb3)
  have HP3 := Lib.hid (HP2.out.below' hb3)
  have HL3 := Lib.hid hL; clear hL
  have hb03 := hb02.trans (hb3.mono hb02.size)
  have cp2 : w3.cell? ⟨w.heap.size + 1, 2, none⟩ = some (.int .i64 p.years) := HP3.out.cell 2
  obtain ⟨mx, hmx⟩ : ∃ mx, max 1 p.years = mx := ⟨_, rfl⟩
  have hmx1 : 1 ≤ mx := by omega
  have hmx2 : mx ≤ 120 := by omega
  have hmx3 : p.age + mx ≤ 151 := by omega
  have HMX := Lib.hid hmx
  go_wp2
  clear hmx cp2
  go_loopw [40] (fun i wr => ∃ k : Nat, (k : Int) ≤ mx ∧ i = .int .i64 k ∧ Hid (∀ j : Nat, j < k → b.d (p.age + j) ≠ 0) ∧ Below w3.heap.size w3 wr) (fun i _ => 121 - (intOf i).toNat)
  case atStart => exact ⟨0, by omega, rfl, Lib.hid (fun j h => by omega), Below.refl _ _⟩
  case round =>
    obtain ⟨k, hk, rfl, hall, hb⟩ := hrel
    have HB4 := Lib.hid (HB3.out.below' hb)
    have HP4 := Lib.hid (HP3.out.below' hb)
    have hb04 := hb03.trans (hb.mono hb03.size)
    have g0 : wr.cell? ⟨w.heap.size, 0, none⟩ = some (.int .i64 b.first) := HB4.out.cell 0
    have g1 : wr.cell? ⟨w.heap.size, 1, none⟩ = some (.slice A n cap) := HB4.out.cell 1
    have g2 : wr.cell? ⟨w.heap.size, 2, none⟩ = some (.int .i64 b.rate) := HB4.out.cell 2
    have g3 : wr.cell? ⟨w.heap.size + 1, 1, none⟩ = some (.int .i64 p.age) := HP4.out.cell 1
    by_cases hlt : (k : Int) < mx
    · have HL4 := Lib.hid (HL3.out.past hb)
      go_wp2_with fail
      obtain ⟨dk, hdk⟩ : ∃ dk, b.d (p.age + (k : Int)) = dk := ⟨_, rfl⟩
      have HDk := Lib.hid hdk; clear hdk
      obtain ⟨nk, hnk⟩ : ∃ nk, nC b.lives b.rate (b.ix (p.age + (k : Int))) = nk := ⟨_, rfl⟩
      obtain ⟨ck, hck⟩ : ∃ ck, cC b.lives b.rate (b.ix (p.age + (k : Int))) = ck := ⟨_, rfl⟩
      obtain ⟨mk, hmk⟩ : ∃ mk, mC b.lives b.rate (b.ix (p.age + (k : Int))) = mk := ⟨_, rfl⟩
      refine (impl_Basis_at_lit b A n cap (some ⟨g, 0, none⟩) top top (p.age + (k : Int)) _ HL4.out ⟨by omega, by omega⟩ ⟨by omega, by omega⟩ (by unfold Bas.ix; omega) (by omega) dk nk ck mk HDk.out hnk hck hmk).mono ?_
      clear hnk hck hmk
      by_cases hd : dk = 0
      · have Q := Lib.hid (show polB b p = false by
          cases e : polB b p
          · rfl
          · exact absurd (HDk.out.trans hd) ((pol_ok e).band k (by have := HMX.out; omega)))
        subst hd
        rintro e w4 ⟨rfl, hb4⟩
        have hfd := run_field_D 0 nk ck mk w4
        go_wp2
        go_ret
        exact ⟨by rw [Q.out]; rfl, hb04.trans (hb4.mono hb04.size)⟩
      · rintro e w4 ⟨rfl, hb4⟩
        have hfd := run_field_D dk nk ck mk w4
        go_wp2
        go_roundw
        case rel => exact ⟨k + 1, by omega, by go_num, Lib.hid (fun j h => by
          by_cases e : j = k
          · subst e; exact fun h9 => hd (HDk.out.symm.trans h9)
          · exact hall.out j (by omega)), below_step hb hb4⟩
        case measure => simp [intOf]; omega
    · have Q := Lib.hid (show polB b p = true by
        have e7 : bandB b p.age p.years = true := by
          simp only [bandB, List.all_eq_true, List.mem_range, decide_eq_true_eq]
          intro i hi
          exact hall.out i (by have := HMX.out; omega)
        simp only [polB, h1, h2, h3, e7, Bool.and_self])
      go_wp2
      go_ret
      exact ⟨by rw [Q.out]; rfl, hb04⟩

end Go.Proofs.YtkdfdbcpbgganaaGreatDoor
end
