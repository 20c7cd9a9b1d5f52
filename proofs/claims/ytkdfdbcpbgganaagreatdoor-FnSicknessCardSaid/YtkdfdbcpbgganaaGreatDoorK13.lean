/- Parts of a proof, one after another: PolI, Sick4, Likes, TabL, SickL. No condition. -/
import Derived.Test.YtkdfdbcpbgganaaGreatDoorK0
import Derived.Test.YtkdfdbcpbgganaaGreatDoorK1
import Derived.Test.YtkdfdbcpbgganaaGreatDoorK2
import Derived.Test.YtkdfdbcpbgganaaGreatDoorK10
import Derived.Test.YtkdfdbcpbgganaaGreatDoorK11
import Derived.Test.YtkdfdbcpbgganaaGreatDoorK12
import Derived.Deep.DeepCutAuto
/- Values of assurances, whether policies are valid, premiums: the program's contracts. -/
section
namespace Go.Proofs.YtkdfdbcpbgganaaGreatDoor
open Go.RowKit Go.BigFrame

theorem impl_IsBasis_any (b : Bas) (A : Option Addr) (n cap : Nat) (w : World) (hB : BasT w A n cap b) :
    Calls Tryz.prog 88 #[.agg #[.int .i64 b.first, .slice A n cap, .int .i64 b.rate]] w fun e w' => e = .returned (.bool (basisB b)) ∧ Below w.heap.size w w' := by
  have hbw : Below w.heap.size w (w.alloc (.cells #[.int .i64 b.first, .slice A n cap, .int .i64 b.rate] 40)) := (Below.refl _ w).alloc (Nat.le_refl _) _
  have HB := Lib.hid (Blk.new w 40 #[.int .i64 b.first, .slice A n cap, .int .i64 b.rate])
  have HBT := Lib.hid (hB.past hbw); clear hB
  cases h1 : tableB b.first b.lives
  · have Q := Lib.hid (show basisB b = false by simp [basisB, h1])
    go_enter Tryz.func88, Tryz.ntmps88
    go_wp2_with fail
    refine (impl_IsLifeTable_any b.first A n cap b.lives _ HBT.out.lives HBT.out.cap HBT.out.first).mono ?_
    rw [h1]
    rintro e w1 ⟨rfl, hb1⟩
    go_wp2
    go_ret
    exact ⟨by rw [Q.out]; rfl, hbw.trans (hb1.mono (by simp))⟩
  · have Q := Lib.hid (show basisB b = inR b.rate 0 200 by simp [basisB, h1])
    go_enter Tryz.func88, Tryz.ntmps88
    go_wp2_with fail
    refine (impl_IsLifeTable_any b.first A n cap b.lives _ HBT.out.lives HBT.out.cap HBT.out.first).mono ?_
    rw [h1]
    rintro e w1 ⟨rfl, hb1⟩
    have c2 : w1.cell? ⟨w.heap.size, 2, none⟩ = some (.int .i64 b.rate) := (HB.out.below' hb1).cell 2
    go_wp2_with (first | (go_at_call 68; refine (impl_isRate_any _ _).mono ?_; rintro e w' ⟨rfl, rfl⟩))
    go_ret
    exact ⟨by rw [Q.out]; rfl, hbw.trans (hb1.mono (by simp))⟩

set_option maxHeartbeats 1000000 in
theorem impl_Basis_at_any (b : Bas) (A : Option Addr) (n cap : Nat) (L : Option Addr) (top lc : Nat) (age : Int) (w : World) (hR : Rd w w.heap.size L 4 (colRows b.lives b.rate top)) (hf : 0 ≤ b.first ∧ b.first ≤ 100) (ha : b.first ≤ age ∧ age ≤ 1000) (hk : b.ix age < top) (ht : top ≤ 1000) :
    Calls Tryz.prog 90 #[.agg #[.int .i64 b.first, .slice A n cap, .int .i64 b.rate], .slice L top lc, .int .i64 age] w fun e w' => e = .returned (.agg (colRow b.lives b.rate (b.ix age)).toArray) ∧ Below w.heap.size w w' := by
  have hbw : Below w.heap.size w ((w.alloc (.cells #[.int .i64 b.first, .slice A n cap, .int .i64 b.rate] 40)).alloc (.cells #[.int .i64 0, .int .i64 0, .int .i64 0, .int .i64 0] 101)) := ((Below.refl _ w).alloc (Nat.le_refl _) _).alloc (by simp) _
  obtain ⟨a1, a2⟩ := ha
  obtain ⟨f1, f2⟩ := hf
  obtain ⟨k, hk'⟩ := Int.eq_ofNat_of_zero_le (show 0 ≤ age - b.first by omega)
  have HE := Lib.hid (show b.ix age = k by unfold Bas.ix; omega)
  rw [HE.out] at hk ⊢
  have hki : (k : Int) < (top : Int) := by omega
  obtain ⟨ad, rfl, had, _, hc⟩ := hR.at' (colRows_get hk)
  have Hc := Lib.hid (fun j v hv => (hbw.cell (p := (ad.add (k * 4)).add j) (by rw [block_of_add, block_of_add]; exact had)).trans (hc j v hv)); clear hc hR
  go_enter Tryz.func90, Tryz.ntmps90
  go_wp2_with (refine wpList_load_agg rfl 101 _ rfl (ad.add (k * 4)) rfl (colRow b.lives b.rate k) Hc.out _ Tryz.underlying101 rfl Columns.size ?_)
  refine bodyPost_ret (v := .agg (colRow b.lives b.rate k).toArray) (by simp [results, Tryz.results90, go_sem]) rfl ⟨rfl, ?_⟩
  repeat (first | exact Below.refl _ _ | refine Below.alloc ?_ (by simp <;> omega) _ | refine Below.setCell ?_ (by simp <;> omega) _ | refine Below.drew ?_)

set_option maxHeartbeats 1000000 in
theorem impl_isAssurance_any (b : Bas) (A : Option Addr) (n cap : Nat) (kind age yrs sum : Int) (w : World) (hf : 0 ≤ b.first ∧ b.first ≤ 100) :
    Calls Tryz.prog 89 #[.agg #[.int .i64 b.first, .slice A n cap], .int .i64 b.rate, .int .i64 kind, .int .i64 age, .int .i64 yrs, .int .i64 sum] w fun e w' => e = .returned (.bool (assurB b kind age yrs sum)) ∧ Below w.heap.size w w' := by
  have hbw : Below w.heap.size w (w.alloc (.cells #[.int .i64 b.first, .slice A n cap] 26)) := (Below.refl _ w).alloc (Nat.le_refl _) _
  obtain ⟨f1, f2⟩ := hf
  have QE := Lib.hid (show (decide (yrs = 0) == decide (kind = 0)) = ((yrs == 0) == (kind == 0)) from rfl)
  cases h1 : inR kind 0 3
  · have Q := Lib.hid (show assurB b kind age yrs sum = false by simp [assurB, h1])
    go_enter Tryz.func89, Tryz.ntmps89
    go_wp2_with (first | (go_at_call 50; refine (impl_inRange_any _ _ _ _).mono ?_; rintro e w' ⟨rfl, rfl⟩) | (go_at_call 68; refine (impl_isRate_any _ _).mono ?_; rintro e w' ⟨rfl, rfl⟩))
    go_ret
    exact ⟨by rw [Q.out]; rfl, hbw⟩
  cases h2 : inR b.rate 0 200
  · have Q := Lib.hid (show assurB b kind age yrs sum = false by simp [assurB, h1, h2])
    go_enter Tryz.func89, Tryz.ntmps89
    go_wp2_with (first | (go_at_call 50; refine (impl_inRange_any _ _ _ _).mono ?_; rintro e w' ⟨rfl, rfl⟩) | (go_at_call 68; refine (impl_isRate_any _ _).mono ?_; rintro e w' ⟨rfl, rfl⟩))
    go_ret
    exact ⟨by rw [Q.out]; rfl, hbw⟩
  cases h3 : inR age b.first 150
  · have Q := Lib.hid (show assurB b kind age yrs sum = false by simp [assurB, h1, h2, h3])
    go_enter Tryz.func89, Tryz.ntmps89
    go_wp2_with (first | (go_at_call 50; refine (impl_inRange_any _ _ _ _).mono ?_; rintro e w' ⟨rfl, rfl⟩) | (go_at_call 68; refine (impl_isRate_any _ _).mono ?_; rintro e w' ⟨rfl, rfl⟩))
    go_ret
    exact ⟨by rw [Q.out]; rfl, hbw⟩
  obtain ⟨a1, a2⟩ := inR_true.1 h3
  cases h4 : inR sum 1 100000000
  · have Q := Lib.hid (show assurB b kind age yrs sum = false by simp [assurB, h1, h2, h3, h4])
    go_enter Tryz.func89, Tryz.ntmps89
    go_wp2_with (first | (go_at_call 50; refine (impl_inRange_any _ _ _ _).mono ?_; rintro e w' ⟨rfl, rfl⟩) | (go_at_call 68; refine (impl_isRate_any _ _).mono ?_; rintro e w' ⟨rfl, rfl⟩))
    go_ret
    exact ⟨by rw [Q.out]; rfl, hbw⟩
  cases h5 : inR yrs 0 120
  · have Q := Lib.hid (show assurB b kind age yrs sum = false by simp [assurB, h1, h2, h3, h4, h5])
    go_enter Tryz.func89, Tryz.ntmps89
    go_wp2_with (first | (go_at_call 50; refine (impl_inRange_any _ _ _ _).mono ?_; rintro e w' ⟨rfl, rfl⟩) | (go_at_call 68; refine (impl_isRate_any _ _).mono ?_; rintro e w' ⟨rfl, rfl⟩) | (go_at_call 118; refine (impl_isYears_any _ _).mono ?_; rintro e w' ⟨rfl, rfl⟩))
    go_ret
    exact ⟨by rw [Q.out]; rfl, hbw⟩
  obtain ⟨y1, y2⟩ := inR_true.1 h5
  by_cases h6 : age + yrs ≤ 150
  rotate_left
  · have Q := Lib.hid (show assurB b kind age yrs sum = false by simp [assurB, h6])
    have h6b : decide (age + yrs ≤ 150) = false := by simp; omega
    go_enter Tryz.func89, Tryz.ntmps89
    go_wp2_with (first | (go_at_call 50; refine (impl_inRange_any _ _ _ _).mono ?_; rintro e w' ⟨rfl, rfl⟩) | (go_at_call 68; refine (impl_isRate_any _ _).mono ?_; rintro e w' ⟨rfl, rfl⟩) | (go_at_call 118; refine (impl_isYears_any _ _).mono ?_; rintro e w' ⟨rfl, rfl⟩))
    go_ret
    exact ⟨by rw [Q.out]; rfl, hbw⟩
  · have Q := Lib.hid (show assurB b kind age yrs sum = ((yrs == 0) == (kind == 0)) by simp only [assurB, h1, h2, h3, h4, h5, h6, QE.out, decide_true, Bool.true_and])
    have h6b : decide (age + yrs ≤ 150) = true := by simp; omega
    obtain ⟨q, hq⟩ : ∃ q, ((yrs == 0) == (kind == 0)) = q := ⟨_, rfl⟩
    rw [hq] at Q
    go_enter Tryz.func89, Tryz.ntmps89
    go_wp2_with (first | (go_at_call 50; refine (impl_inRange_any _ _ _ _).mono ?_; rintro e w' ⟨rfl, rfl⟩) | (go_at_call 68; refine (impl_isRate_any _ _).mono ?_; rintro e w' ⟨rfl, rfl⟩) | (go_at_call 118; refine (impl_isYears_any _ _).mono ?_; rintro e w' ⟨rfl, rfl⟩))
    go_ret
    exact ⟨by rw [Q.out]; first | rfl | simp, hbw⟩

theorem impl_roundUp_any (a b c : Int) (w : World) (ha : 0 ≤ a ∧ a ≤ 1000000000000000000) (hb : 0 ≤ b ∧ b ≤ 1000000000000000000) (hc : 1 ≤ c ∧ c ≤ 1000000000000000000) (hq : a * b / c ≤ 100000000000000000) :
    Calls Tryz.prog 74 #[.int .i64 a, .int .i64 b, .int .i64 c] w fun e w' => e = .returned (.tuple #[.int .i64 (upP a b c), .bool true]) ∧ Below w.heap.size w w' := by
  have Q := Lib.hid (show mdP a b c = (a * b / c, a * b % c, true) by unfold mdP; rw [if_pos (by omega)])
  have h1 : 0 ≤ a * b / c := Int.ediv_nonneg (Int.mul_nonneg ha.1 hb.1) (by omega)
  have h2 : 0 ≤ a * b % c := Int.emod_nonneg _ (by omega)
  have QU := Lib.hid (show upP a b c = a * b / c + (if 0 < a * b % c then 1 else 0) from rfl)
  generalize a * b / c = q at *
  generalize a * b % c = r at *
  by_cases hr : 0 < r
  · rw [if_pos hr] at QU
    go_enter Tryz.func74, Tryz.ntmps74
    go_wp2_with fail
    refine (impl_multiplyDivide_any a b c _ ⟨by omega, by omega⟩ ⟨by omega, by omega⟩ ⟨by omega, by omega⟩).mono ?_
    rw [Q.out]
    rintro e w1 ⟨rfl, hb1⟩
    go_wp2
    go_ret2
    exact ⟨by rw [QU.out]; rfl, hb1⟩
  · rw [if_neg hr] at QU
    go_enter Tryz.func74, Tryz.ntmps74
    go_wp2_with fail
    refine (impl_multiplyDivide_any a b c _ ⟨by omega, by omega⟩ ⟨by omega, by omega⟩ ⟨by omega, by omega⟩).mono ?_
    rw [Q.out]
    rintro e w1 ⟨rfl, hb1⟩
    go_wp2
    go_ret2
    exact ⟨by rw [QU.out]; first | rfl | (congr 2; omega) | simp, hb1⟩
theorem impl_priced_any (a b c : Int) (w : World) (ha : 0 ≤ a ∧ a ≤ 1000000000000000000) (hb : 0 ≤ b ∧ b ≤ 1000000000000000000) (hc : 1 ≤ c ∧ c ≤ 1000000000000000000) (hq : a * b / c ≤ 100000000000000000) :
    Calls Tryz.prog 37 #[.int .i64 a, .int .i64 b, .int .i64 c] w fun e w' => e = .returned (.int .i64 (upP a b c)) ∧ Below w.heap.size w w' := by
  go_enter Tryz.func37, Tryz.ntmps37
  go_wp2_with (first | (go_at_call 74; refine (impl_roundUp_any a b c _ ha hb hc hq).mono ?_; rintro e w1 ⟨rfl, hb1⟩))
  go_ret
  exact ⟨rfl, hb1⟩


def benT (kind m1 m2 d2 : Int) : Int := if kind = 0 then m1 else if kind = 1 then m1 - m2 else if kind = 2 then m1 - m2 + d2 else d2
def benB (kind n1 n2 : Int) : Int := if kind = 0 then n1 else n1 - n2
set_option maxHeartbeats 2000000 in
theorem impl_benefits_any (kind d1 n1 c1 m1 d2 n2 c2 m2 : Int) (w : World) (hn1 : 0 ≤ n1 ∧ n1 ≤ 200000000000000000) (hm1 : 0 ≤ m1 ∧ m1 ≤ 200000000000000000) (hn2 : 0 ≤ n2 ∧ n2 ≤ 200000000000000000) (hm2 : 0 ≤ m2 ∧ m2 ≤ 200000000000000000) (hd2 : 0 ≤ d2 ∧ d2 ≤ 200000000000000000) :
    Calls Tryz.prog 161 #[.int .i64 kind, .agg #[.int .i64 d1, .int .i64 n1, .int .i64 c1, .int .i64 m1], .agg #[.int .i64 d2, .int .i64 n2, .int .i64 c2, .int .i64 m2]] w fun e w' =>
      e = .returned (.tuple #[.int .i64 (benT kind m1 m2 d2), .int .i64 (benB kind n1 n2)]) ∧ Below w.heap.size w w' := by
  obtain ⟨a1, a2⟩ := hn1
  obtain ⟨a3, a4⟩ := hm1
  obtain ⟨a5, a6⟩ := hn2
  obtain ⟨a7, a8⟩ := hm2
  obtain ⟨a9, a10⟩ := hd2
  have hbw := boxes_below (w := w) (X := [.int .i64 d1, .int .i64 n1, .int .i64 c1, .int .i64 m1]) (Y := [.int .i64 d2, .int .i64 n2, .int .i64 c2, .int .i64 m2]) (tx := 101) (ty := 101)
  have HX := Lib.hid ((Blk.new w 101 #[.int .i64 d1, .int .i64 n1, .int .i64 c1, .int .i64 m1]).alloc (.cells #[.int .i64 d2, .int .i64 n2, .int .i64 c2, .int .i64 m2] 101))
  have HY := Lib.hid (Blk.new (w.alloc (.cells #[.int .i64 d1, .int .i64 n1, .int .i64 c1, .int .i64 m1] 101)) 101 #[.int .i64 d2, .int .i64 n2, .int .i64 c2, .int .i64 m2])
  rw [World.size_alloc] at HY
  obtain ⟨W, hW⟩ : ∃ W, ((w.alloc (.cells #[.int .i64 d1, .int .i64 n1, .int .i64 c1, .int .i64 m1] 101)).alloc (.cells #[.int .i64 d2, .int .i64 n2, .int .i64 c2, .int .i64 m2] 101)) = W := ⟨_, rfl⟩
  have hbW : Below w.heap.size w W := by rw [← hW]; exact hbw
  rw [hW] at HX HY
  have q1 := fun y : Past W => Past.cell (p := ⟨w.heap.size, 1, none⟩) (v := .int .i64 n1) (HX.out.cell 1) y
  have q3 := fun y : Past W => Past.cell (p := ⟨w.heap.size, 3, none⟩) (v := .int .i64 m1) (HX.out.cell 3) y
  have q4 := fun y : Past W => Past.cell (p := ⟨w.heap.size + 1, 0, none⟩) (v := .int .i64 d2) (HY.out.cell 0) y
  have q5 := fun y : Past W => Past.cell (p := ⟨w.heap.size + 1, 1, none⟩) (v := .int .i64 n2) (HY.out.cell 1) y
  have q7 := fun y : Past W => Past.cell (p := ⟨w.heap.size + 1, 3, none⟩) (v := .int .i64 m2) (HY.out.cell 3) y
  have HW := Lib.hid hW; clear hW hbw
  by_cases h0 : kind = 0
  · subst h0
    have Q := Lib.hid (show benT 0 m1 m2 d2 = m1 ∧ benB 0 n1 n2 = n1 by simp [benT, benB])
    go_enter Tryz.func161, Tryz.ntmps161
    go_wp2
    rw [HW.out]
    refine wp_region_past (by kernel_rfl) (by kernel_rfl) ?_
    repeat (go_big_quiet_step (fail))
    refine wpQuiet_nil ?_
    rintro _ ⟨y, rfl⟩
    go_wp2
    go_ret2
    exact ⟨by rw [Q.out.1, Q.out.2]; rfl, hbW.trans (y.2.mono hbW.size)⟩
  by_cases h1 : kind = 1
  · subst h1
    have Q := Lib.hid (show benT 1 m1 m2 d2 = m1 - m2 ∧ benB 1 n1 n2 = n1 - n2 by simp [benT, benB])
    go_enter Tryz.func161, Tryz.ntmps161
    go_wp2
    rw [HW.out]
    refine wp_region_past (by kernel_rfl) (by kernel_rfl) ?_
    repeat (go_big_quiet_step (fail))
    refine wpQuiet_nil ?_
    rintro _ ⟨y, rfl⟩
    go_wp2
    go_ret2
    exact ⟨by rw [Q.out.1, Q.out.2]; rfl, hbW.trans (y.2.mono hbW.size)⟩
  by_cases h2 : kind = 2
  · subst h2
    have Q := Lib.hid (show benT 2 m1 m2 d2 = m1 - m2 + d2 ∧ benB 2 n1 n2 = n1 - n2 by simp [benT, benB])
    go_enter Tryz.func161, Tryz.ntmps161
    go_wp2
    rw [HW.out]
    refine wp_region_past (by kernel_rfl) (by kernel_rfl) ?_
    repeat (go_big_quiet_step (fail))
    refine wpQuiet_nil ?_
    rintro _ ⟨y, rfl⟩
    go_wp2
    go_ret2
    exact ⟨by rw [Q.out.1, Q.out.2]; rfl, hbW.trans (y.2.mono hbW.size)⟩
  have Q := Lib.hid (show benT kind m1 m2 d2 = d2 ∧ benB kind n1 n2 = n1 - n2 by simp [benT, benB, h0, h1, h2])
  go_enter Tryz.func161, Tryz.ntmps161
  go_wp2
  rw [HW.out]
  refine wp_region_past (by kernel_rfl) (by kernel_rfl) ?_
  repeat (go_big_quiet_step (fail))
  refine wpQuiet_nil ?_
  rintro _ ⟨y, rfl⟩
  go_wp2
  go_ret2
  exact ⟨by rw [Q.out.1, Q.out.2]; rfl, hbW.trans (y.2.mono hbW.size)⟩

end Go.Proofs.YtkdfdbcpbgganaaGreatDoor
end

/- Sickness benefits: values and premiums: the program. -/
section
namespace Go.Proofs.YtkdfdbcpbgganaaGreatDoor
open Go.RowKit Go.BigFrame

theorem PriceT.size : (Tryz.prog.info? 60).map (·.size) = some 3 := by kernel_rfl
theorem three_boxes (w : World) (X Y Z : List Value) (tx ty tz : TypeId) : Below w.heap.size w (((w.alloc (.cells X.toArray tx)).alloc (.cells Y.toArray ty)).alloc (.cells Z.toArray tz)) ∧ Blk (((w.alloc (.cells X.toArray tx)).alloc (.cells Y.toArray ty)).alloc (.cells Z.toArray tz)) w.heap.size tx X.toArray ∧ Blk (((w.alloc (.cells X.toArray tx)).alloc (.cells Y.toArray ty)).alloc (.cells Z.toArray tz)) (w.heap.size + 1) ty Y.toArray ∧ Blk (((w.alloc (.cells X.toArray tx)).alloc (.cells Y.toArray ty)).alloc (.cells Z.toArray tz)) (w.heap.size + 2) tz Z.toArray ∧ (((w.alloc (.cells X.toArray tx)).alloc (.cells Y.toArray ty)).alloc (.cells Z.toArray tz)).heap.size = w.heap.size + 3 := by
  refine ⟨(((Below.refl _ w).alloc (Nat.le_refl _) _).alloc (by simp) _).alloc (by simp <;> omega) _, ((Blk.new w tx X.toArray).alloc _).alloc _, ?_, ?_, by simp⟩
  · have := Blk.new (w.alloc (.cells X.toArray tx)) ty Y.toArray
    rw [World.size_alloc] at this
    exact this.alloc _
  · have := Blk.new ((w.alloc (.cells X.toArray tx)).alloc (.cells Y.toArray ty)) tz Z.toArray
    rwa [World.size_alloc, World.size_alloc] at this
theorem two_new (w : World) (X Y : Array Value) (tx ty : TypeId) : Blk ((w.alloc (.cells X tx)).alloc (.cells Y ty)).drew w.heap.size tx X ∧ Blk ((w.alloc (.cells X tx)).alloc (.cells Y ty)).drew (w.heap.size + 1) ty Y ∧ Below w.heap.size w ((w.alloc (.cells X tx)).alloc (.cells Y ty)).drew := by
  refine ⟨((Blk.new w tx X).alloc _).drew, ?_, (((Below.refl _ w).alloc (Nat.le_refl _) _).alloc (by simp) _).drew⟩
  have := (Blk.new (w.alloc (.cells X tx)) ty Y).drew
  rwa [World.size_alloc] at this
/-- what the program hands on -/
def Ben.v1 (b : Ben) : Int := if b.code = 0 then b.d 0 else 0
def Ben.v2 (b : Ben) : Int := if b.code = 0 then b.paid else 0
theorem ben_bad {b : Ben} {k : Int} (h : b.code = k) (hk : k ≠ 0) : Value.tuple #[.int .i64 b.v, .agg #[.int .i64 0, .int .i64 b.v1, .int .i64 b.v2], .int .i64 b.code] = .tuple #[.int .i64 0, .agg #[.int .i64 0, .int .i64 0, .int .i64 0], .int .i64 k] := by
  have h0 : ¬ b.code = 0 := by rw [h]; exact hk
  unfold Ben.v Ben.v1 Ben.v2
  rw [if_neg h0, if_neg h0, if_neg h0, h]
theorem ben_good {b : Ben} (h : b.code = 0) : Value.tuple #[.int .i64 b.v, .agg #[.int .i64 0, .int .i64 b.v1, .int .i64 b.v2], .int .i64 b.code] = .tuple #[.int .i64 b.val, .agg #[.int .i64 0, .int .i64 (b.d 0), .int .i64 b.paid], .int .i64 0] := by
  unfold Ben.v Ben.v1 Ben.v2
  rw [if_pos h, if_pos h, if_pos h, h]
theorem code_range {b : Ben} (ht : tableB b.f b.xs = true) (hs : sickB b.g b.ws = true) (h : ¬ (inR b.rate 0 200 = true ∧ inR b.age b.f 150 = true ∧ inR b.n 1 60 = true ∧ b.age + b.n ≤ 150 ∧ inR b.pay 1 100000 = true)) : b.code = 2 := by
  unfold Ben.code code6 code5
  rw [if_pos hs, if_pos ht]
  by_cases h1 : inR b.rate 0 200 = true ∧ inR b.age b.f 150 = true
  · rw [if_pos h1, if_pos rfl]
    split
    · rename_i h2
      obtain ⟨h3, _, h5⟩ := h2
      unfold Ben.in_ at h3
      rw [Bool.and_eq_true] at h3
      exact absurd ⟨h1.1, h1.2, h3.1, h5, h3.2⟩ h
    · rfl
  · rw [if_neg h1, if_neg (by decide)]
theorem code_state {b : Ben} (ht : tableB b.f b.xs = true) (hs : sickB b.g b.ws = true) (h : inR b.rate 0 200 = true ∧ inR b.age b.f 150 = true ∧ inR b.n 1 60 = true ∧ b.age + b.n ≤ 150 ∧ inR b.pay 1 100000 = true) : b.code = if dC b.xs b.rate b.ix = 0 then 5 else 0 := by
  obtain ⟨h1, h2, h3, h4, h5⟩ := h
  unfold Ben.code code6 code5
  rw [if_pos hs, if_pos ht, if_pos (And.intro h1 h2), if_pos rfl]
  have h6 := inR_true.1 h3
  rw [if_pos ⟨by unfold Ben.in_; rw [h3, h5]; rfl, inR_true.2 ⟨by omega, by omega⟩, h4⟩]
  rfl

set_option maxRecDepth 100000 in
set_option maxHeartbeats 8000000 in
theorem impl_sickValue_any (b : Ben) (A : Option Addr) (n c : Nat) (B : Option Addr) (m d : Nat) (w : World) (hT : LiesT w A n b.xs) (hc : n ≤ c) (hf : In64 b.f) (hS : LiesT w B m b.ws) :
    Calls Tryz.prog 34 #[.agg #[.int .i64 b.f, .slice A n c], .agg #[.int .i64 b.g, .slice B m d], .int .i64 b.rate, .int .i64 b.age, .int .i64 b.n, .int .i64 b.pay] w fun e w' => e = .returned (.tuple #[.int .i64 b.v, .agg #[.int .i64 0, .int .i64 b.v1, .int .i64 b.v2], .int .i64 b.code]) ∧ Below w.heap.size w w' := by
  obtain ⟨hbw, hX, hY, hZ, hz⟩ := three_boxes w [.int .i64 b.f, .slice A n c] [.int .i64 b.g, .slice B m d] [.int .i64 0, .int .i64 0, .int .i64 0] 26 28 60
  have HX := Lib.hid hX; have HY := Lib.hid hY; have HZ := Lib.hid hZ
  have HT := Lib.hid (hT.past hbw); clear hT
  have HS := Lib.hid (hS.past hbw); clear hS
  clear hX hY hZ
  go_enter Tryz.func34, Tryz.ntmps34
  go_upto_region 1 with (fail)
  generalize ((w.alloc _).alloc _).alloc _ = W at hbw HX HY HZ HT HS hz ⊢
  have hcX := Lib.hid (Blk.agg (cs := [.int .i64 b.f, .slice A n c]) HX.out 0 [.int .i64 b.f, .slice A n c] rfl)
  go_wp2_with (refine wpList_load_agg rfl 26 _ rfl ⟨w.heap.size, 0, none⟩ rfl [.int .i64 b.f, .slice A n c] hcX.out _ Tryz.underlying26 rfl Tab.size ?_)
  refine (impl_IsLifeTable_any b.f A n c b.xs _ HT.out hc hf).mono ?_
  rintro e w1 ⟨rfl, hb⟩
  have hbw1 := hbw.trans (hb.mono hbw.size)
  have HX1 := Lib.hid (HX.out.below' hb); have HY1 := Lib.hid (HY.out.below' hb); have HZ1 := Lib.hid (HZ.out.below' hb)
  have HT1 := Lib.hid (HT.out.past hb); have HS1 := Lib.hid (HS.out.past hb)
  clear HX HY HZ HT HS hcX hb
  cases ht : tableB b.f b.xs
  · have Q := Lib.hid (show b.code = 1 by unfold Ben.code code6 code5; rw [ht]; split <;> rfl)
    have H1c : Hid (∀ v ∈ ([.int .i64 0, .int .i64 0, .int .i64 0] : List Value), v.oneCell' = true) := Lib.hid (by simp [Value.oneCell'])
    go_wp2_with (first | (refine wpList_store_agg rfl 60 _ _ rfl (w.heap.size + 2) 0 [.int .i64 0, .int .i64 0, .int .i64 0] rfl rfl 60 #[.int .i64 0, .int .i64 0, .int .i64 0] HZ1.out PriceT.size (by simp) H1c.out ?_))
    intro w9 hR9 hg9 _
    have hR9' : Blk w9 (w.heap.size + 2) 60 #[.int .i64 0, .int .i64 0, .int .i64 0] := hR9
    have r0 : w9.cell? ⟨w.heap.size + 2, 0, none⟩ = some (.int .i64 0) := hR9'.cell 0
    have r1 : w9.cell? ⟨w.heap.size + 2, 1, none⟩ = some (.int .i64 0) := hR9'.cell 1
    have r2 : w9.cell? ⟨w.heap.size + 2, 2, none⟩ = some (.int .i64 0) := hR9'.cell 2
    go_wp2
    refine bodyPost_ret (v := .tuple #[.int .i64 0, .agg #[.int .i64 0, .int .i64 0, .int .i64 0], .int .i64 1]) (by simp [results, Tryz.results34, go_sem, r0, r1, r2]) rfl ⟨by rw [ben_bad Q.out (by decide)], (hbw1).grown hg9 (hbw1).size (fun k hk => by injection hk with hk; omega)⟩
  have y0 : w1.cell? ⟨w.heap.size + 1, 0, none⟩ = some (.int .i64 b.g) := HY1.out.cell 0
  have y1 : w1.cell? ⟨w.heap.size + 1, 1, none⟩ = some (.slice B m d) := HY1.out.cell 1
  go_wp2_with fail
  refine (impl_IsSickTable_any b.g B m d b.ws _ HS1.out).mono ?_
  rintro e w2 ⟨rfl, hb⟩
  have hbw2 := hbw1.trans (hb.mono hbw1.size)
  have HX2 := Lib.hid (HX1.out.below' hb); have HY2 := Lib.hid (HY1.out.below' hb); have HZ2 := Lib.hid (HZ1.out.below' hb)
  have HT2 := Lib.hid (HT1.out.past hb); have HS2 := Lib.hid (HS1.out.past hb)
  clear HX1 HY1 HZ1 HT1 HS1 y0 y1 hb hbw1
  cases hs : sickB b.g b.ws
  · have Q := Lib.hid (show b.code = 1 by unfold Ben.code; rw [hs]; rfl)
    have H1c : Hid (∀ v ∈ ([.int .i64 0, .int .i64 0, .int .i64 0] : List Value), v.oneCell' = true) := Lib.hid (by simp [Value.oneCell'])
    go_wp2_with (first | (refine wpList_store_agg rfl 60 _ _ rfl (w.heap.size + 2) 0 [.int .i64 0, .int .i64 0, .int .i64 0] rfl rfl 60 #[.int .i64 0, .int .i64 0, .int .i64 0] HZ2.out PriceT.size (by simp) H1c.out ?_))
    intro w9 hR9 hg9 _
    have hR9' : Blk w9 (w.heap.size + 2) 60 #[.int .i64 0, .int .i64 0, .int .i64 0] := hR9
    have r0 : w9.cell? ⟨w.heap.size + 2, 0, none⟩ = some (.int .i64 0) := hR9'.cell 0
    have r1 : w9.cell? ⟨w.heap.size + 2, 1, none⟩ = some (.int .i64 0) := hR9'.cell 1
    have r2 : w9.cell? ⟨w.heap.size + 2, 2, none⟩ = some (.int .i64 0) := hR9'.cell 2
    go_wp2
    refine bodyPost_ret (v := .tuple #[.int .i64 0, .agg #[.int .i64 0, .int .i64 0, .int .i64 0], .int .i64 1]) (by simp [results, Tryz.results34, go_sem, r0, r1, r2]) rfl ⟨by rw [ben_bad Q.out (by decide)], (hbw2).grown hg9 (hbw2).size (fun k hk => by injection hk with hk; omega)⟩
  have x0 : w2.cell? ⟨w.heap.size, 0, none⟩ = some (.int .i64 b.f) := HX2.out.cell 0
  have f0 := (table_ok ht).first0; have f1 := (table_ok ht).first1
  have HHT := Lib.hid ht; have HHS := Lib.hid hs
  clear ht hs
  cases h1 : inR b.rate 0 200
  · have Q := Lib.hid (show b.code = 2 from code_range HHT.out HHS.out (fun h => by have h9 := h.1; rw [h1] at h9; cases h9))
    have H1c : Hid (∀ v ∈ ([.int .i64 0, .int .i64 0, .int .i64 0] : List Value), v.oneCell' = true) := Lib.hid (by simp [Value.oneCell'])
    go_wp2_with (first | (go_at_call 68; refine (impl_isRate_any _ _).mono ?_; rintro e w' ⟨rfl, rfl⟩) | (go_at_call 50; refine (impl_inRange_any _ _ _ _).mono ?_; rintro e w' ⟨rfl, rfl⟩) | (refine wpList_store_agg rfl 60 _ _ rfl (w.heap.size + 2) 0 [.int .i64 0, .int .i64 0, .int .i64 0] rfl rfl 60 #[.int .i64 0, .int .i64 0, .int .i64 0] HZ2.out PriceT.size (by simp) H1c.out ?_))
    intro w9 hR9 hg9 _
    have hR9' : Blk w9 (w.heap.size + 2) 60 #[.int .i64 0, .int .i64 0, .int .i64 0] := hR9
    have r0 : w9.cell? ⟨w.heap.size + 2, 0, none⟩ = some (.int .i64 0) := hR9'.cell 0
    have r1 : w9.cell? ⟨w.heap.size + 2, 1, none⟩ = some (.int .i64 0) := hR9'.cell 1
    have r2 : w9.cell? ⟨w.heap.size + 2, 2, none⟩ = some (.int .i64 0) := hR9'.cell 2
    go_wp2
    refine bodyPost_ret (v := .tuple #[.int .i64 0, .agg #[.int .i64 0, .int .i64 0, .int .i64 0], .int .i64 2]) (by simp [results, Tryz.results34, go_sem, r0, r1, r2]) rfl ⟨by rw [ben_bad Q.out (by decide)], (hbw2).grown hg9 (hbw2).size (fun k hk => by injection hk with hk; omega)⟩
  cases h2 : inR b.age b.f 150
  · have Q := Lib.hid (show b.code = 2 from code_range HHT.out HHS.out (fun h => by have h9 := h.2.1; rw [h2] at h9; cases h9))
    have H1c : Hid (∀ v ∈ ([.int .i64 0, .int .i64 0, .int .i64 0] : List Value), v.oneCell' = true) := Lib.hid (by simp [Value.oneCell'])
    go_wp2_with (first | (go_at_call 68; refine (impl_isRate_any _ _).mono ?_; rintro e w' ⟨rfl, rfl⟩) | (go_at_call 50; refine (impl_inRange_any _ _ _ _).mono ?_; rintro e w' ⟨rfl, rfl⟩) | (refine wpList_store_agg rfl 60 _ _ rfl (w.heap.size + 2) 0 [.int .i64 0, .int .i64 0, .int .i64 0] rfl rfl 60 #[.int .i64 0, .int .i64 0, .int .i64 0] HZ2.out PriceT.size (by simp) H1c.out ?_))
    intro w9 hR9 hg9 _
    have hR9' : Blk w9 (w.heap.size + 2) 60 #[.int .i64 0, .int .i64 0, .int .i64 0] := hR9
    have r0 : w9.cell? ⟨w.heap.size + 2, 0, none⟩ = some (.int .i64 0) := hR9'.cell 0
    have r1 : w9.cell? ⟨w.heap.size + 2, 1, none⟩ = some (.int .i64 0) := hR9'.cell 1
    have r2 : w9.cell? ⟨w.heap.size + 2, 2, none⟩ = some (.int .i64 0) := hR9'.cell 2
    go_wp2
    refine bodyPost_ret (v := .tuple #[.int .i64 0, .agg #[.int .i64 0, .int .i64 0, .int .i64 0], .int .i64 2]) (by simp [results, Tryz.results34, go_sem, r0, r1, r2]) rfl ⟨by rw [ben_bad Q.out (by decide)], (hbw2).grown hg9 (hbw2).size (fun k hk => by injection hk with hk; omega)⟩
  obtain ⟨a0, a1⟩ := inR_true.1 h2
  cases h3 : inR b.n 1 60
  · have Q := Lib.hid (show b.code = 2 from code_range HHT.out HHS.out (fun h => by have h9 := h.2.2.1; rw [h3] at h9; cases h9))
    have H1c : Hid (∀ v ∈ ([.int .i64 0, .int .i64 0, .int .i64 0] : List Value), v.oneCell' = true) := Lib.hid (by simp [Value.oneCell'])
    go_wp2_with (first | (go_at_call 68; refine (impl_isRate_any _ _).mono ?_; rintro e w' ⟨rfl, rfl⟩) | (go_at_call 50; refine (impl_inRange_any _ _ _ _).mono ?_; rintro e w' ⟨rfl, rfl⟩) | (refine wpList_store_agg rfl 60 _ _ rfl (w.heap.size + 2) 0 [.int .i64 0, .int .i64 0, .int .i64 0] rfl rfl 60 #[.int .i64 0, .int .i64 0, .int .i64 0] HZ2.out PriceT.size (by simp) H1c.out ?_))
    intro w9 hR9 hg9 _
    have hR9' : Blk w9 (w.heap.size + 2) 60 #[.int .i64 0, .int .i64 0, .int .i64 0] := hR9
    have r0 : w9.cell? ⟨w.heap.size + 2, 0, none⟩ = some (.int .i64 0) := hR9'.cell 0
    have r1 : w9.cell? ⟨w.heap.size + 2, 1, none⟩ = some (.int .i64 0) := hR9'.cell 1
    have r2 : w9.cell? ⟨w.heap.size + 2, 2, none⟩ = some (.int .i64 0) := hR9'.cell 2
    go_wp2
    refine bodyPost_ret (v := .tuple #[.int .i64 0, .agg #[.int .i64 0, .int .i64 0, .int .i64 0], .int .i64 2]) (by simp [results, Tryz.results34, go_sem, r0, r1, r2]) rfl ⟨by rw [ben_bad Q.out (by decide)], (hbw2).grown hg9 (hbw2).size (fun k hk => by injection hk with hk; omega)⟩
  obtain ⟨n0, n1⟩ := inR_true.1 h3
  by_cases h4 : b.age + b.n ≤ 150
  rotate_left
  · have Q := Lib.hid (show b.code = 2 from code_range HHT.out HHS.out (fun h => h4 h.2.2.2.1))
    have H1c : Hid (∀ v ∈ ([.int .i64 0, .int .i64 0, .int .i64 0] : List Value), v.oneCell' = true) := Lib.hid (by simp [Value.oneCell'])
    go_wp2_with (first | (go_at_call 68; refine (impl_isRate_any _ _).mono ?_; rintro e w' ⟨rfl, rfl⟩) | (go_at_call 50; refine (impl_inRange_any _ _ _ _).mono ?_; rintro e w' ⟨rfl, rfl⟩) | (refine wpList_store_agg rfl 60 _ _ rfl (w.heap.size + 2) 0 [.int .i64 0, .int .i64 0, .int .i64 0] rfl rfl 60 #[.int .i64 0, .int .i64 0, .int .i64 0] HZ2.out PriceT.size (by simp) H1c.out ?_))
    intro w9 hR9 hg9 _
    have hR9' : Blk w9 (w.heap.size + 2) 60 #[.int .i64 0, .int .i64 0, .int .i64 0] := hR9
    have r0 : w9.cell? ⟨w.heap.size + 2, 0, none⟩ = some (.int .i64 0) := hR9'.cell 0
    have r1 : w9.cell? ⟨w.heap.size + 2, 1, none⟩ = some (.int .i64 0) := hR9'.cell 1
    have r2 : w9.cell? ⟨w.heap.size + 2, 2, none⟩ = some (.int .i64 0) := hR9'.cell 2
    go_wp2
    refine bodyPost_ret (v := .tuple #[.int .i64 0, .agg #[.int .i64 0, .int .i64 0, .int .i64 0], .int .i64 2]) (by simp [results, Tryz.results34, go_sem, r0, r1, r2]) rfl ⟨by rw [ben_bad Q.out (by decide)], (hbw2).grown hg9 (hbw2).size (fun k hk => by injection hk with hk; omega)⟩
  cases h5 : inR b.pay 1 100000
  · have Q := Lib.hid (show b.code = 2 from code_range HHT.out HHS.out (fun h => by have h9 := h.2.2.2.2; rw [h5] at h9; cases h9))
    have H1c : Hid (∀ v ∈ ([.int .i64 0, .int .i64 0, .int .i64 0] : List Value), v.oneCell' = true) := Lib.hid (by simp [Value.oneCell'])
    go_wp2_with (first | (go_at_call 68; refine (impl_isRate_any _ _).mono ?_; rintro e w' ⟨rfl, rfl⟩) | (go_at_call 50; refine (impl_inRange_any _ _ _ _).mono ?_; rintro e w' ⟨rfl, rfl⟩) | (refine wpList_store_agg rfl 60 _ _ rfl (w.heap.size + 2) 0 [.int .i64 0, .int .i64 0, .int .i64 0] rfl rfl 60 #[.int .i64 0, .int .i64 0, .int .i64 0] HZ2.out PriceT.size (by simp) H1c.out ?_))
    intro w9 hR9 hg9 _
    have hR9' : Blk w9 (w.heap.size + 2) 60 #[.int .i64 0, .int .i64 0, .int .i64 0] := hR9
    have r0 : w9.cell? ⟨w.heap.size + 2, 0, none⟩ = some (.int .i64 0) := hR9'.cell 0
    have r1 : w9.cell? ⟨w.heap.size + 2, 1, none⟩ = some (.int .i64 0) := hR9'.cell 1
    have r2 : w9.cell? ⟨w.heap.size + 2, 2, none⟩ = some (.int .i64 0) := hR9'.cell 2
    go_wp2
    refine bodyPost_ret (v := .tuple #[.int .i64 0, .agg #[.int .i64 0, .int .i64 0, .int .i64 0], .int .i64 2]) (by simp [results, Tryz.results34, go_sem, r0, r1, r2]) rfl ⟨by rw [ben_bad Q.out (by decide)], (hbw2).grown hg9 (hbw2).size (fun k hk => by injection hk with hk; omega)⟩
  have r0 := (inR_true.1 h1).1; have r1 := (inR_true.1 h1).2
  have HT0 := Lib.hid (table_ok HHT.out)
  have HCD := Lib.hid (code_state HHT.out HHS.out ⟨h1, h2, h3, h4, h5⟩)
  have hcX := Lib.hid (Blk.agg (cs := [.int .i64 b.f, .slice A n c]) HX2.out 0 [.int .i64 b.f, .slice A n c] rfl)
  go_wp2_with (first | (go_at_call 68; refine (impl_isRate_any _ _).mono ?_; rintro e w' ⟨rfl, rfl⟩) | (go_at_call 50; refine (impl_inRange_any _ _ _ _).mono ?_; rintro e w' ⟨rfl, rfl⟩) | (refine wpList_load_agg rfl 26 _ rfl ⟨w.heap.size, 0, none⟩ rfl [.int .i64 b.f, .slice A n c] hcX.out _ Tryz.underlying26 rfl Tab.size ?_))
  clear hcX h1 h2 h3 h5 x0
  refine (impl_columnsOf_any b.f A n c b.xs b.rate _ HT2.out HT0.out ⟨r0, r1⟩).mono ?_
  obtain ⟨k, hk⟩ := Int.eq_ofNat_of_zero_le (show 0 ≤ b.age - b.f by omega)
  obtain ⟨q, hq⟩ := Int.eq_ofNat_of_zero_le (show 0 ≤ b.n by omega)
  have HK := Lib.hid hk; have HQ := Lib.hid hq
  have HE := Lib.hid (show b.ix = k by unfold Ben.ix; omega)
  have hq60 : q ≤ 60 := by omega
  obtain ⟨m', hm'⟩ : ∃ m', k + q = m' := ⟨_, rfl⟩
  have HM := Lib.hid hm'
  have hkt : m' < (151 - b.f).toNat := by omega
  have htop : (((151 - b.f).toNat : Nat) : Int) = 151 - b.f := by omega
  obtain ⟨top, htp⟩ : ∃ top, (151 - b.f).toNat = top := ⟨_, rfl⟩
  rw [htp] at hkt htop ⊢
  have HTP := Lib.hid htp
  clear htp
  rintro e w3 ⟨g, rfl, hL, hb⟩
  have HL := Lib.hid hL
  have hbw3 := hbw2.trans (hb.mono hbw2.size)
  have HX3 := Lib.hid (HX2.out.below' hb); have HY3 := Lib.hid (HY2.out.below' hb); have HZ3 := Lib.hid (HZ2.out.below' hb)
  have HS3 := Lib.hid (HS2.out.past hb)
  clear HX2 HY2 HZ2 HT2 HS2 hb hbw2 hL
  obtain ⟨ad0, had0, hadB, _, hc1⟩ := HL.out.at' (colRows_get (xs := b.xs) (rate := b.rate) (show k < top by omega))
  obtain ⟨ad1, had1, _, _, hc2⟩ := HL.out.at' (colRows_get (xs := b.xs) (rate := b.rate) hkt)
  injection had0 with had0; subst had0
  injection had1 with had1; subst had1
  have x0 : w3.cell? ⟨w.heap.size, 0, none⟩ = some (.int .i64 b.f) := HX3.out.cell 0
  have u0 : w3.cell? ⟨g, k * 4, none⟩ = some (.int .i64 (dC b.xs b.rate k)) := by have := hc1 0 _ rfl; rw [add_none, add_none, Nat.zero_add] at this; exact this
  have u1 : w3.cell? ⟨g, k * 4 + 1, none⟩ = some (.int .i64 (nC b.xs b.rate k)) := by have := hc1 1 _ rfl; rw [add_none, add_none, Nat.zero_add] at this; exact this
  have u2 : w3.cell? ⟨g, k * 4 + 2, none⟩ = some (.int .i64 (cC b.xs b.rate k)) := by have := hc1 2 _ rfl; rw [add_none, add_none, Nat.zero_add] at this; exact this
  have u3 : w3.cell? ⟨g, k * 4 + 3, none⟩ = some (.int .i64 (mC b.xs b.rate k)) := by have := hc1 3 _ rfl; rw [add_none, add_none, Nat.zero_add] at this; exact this
  have v0 : w3.cell? ⟨g, m' * 4, none⟩ = some (.int .i64 (dC b.xs b.rate m')) := by have := hc2 0 _ rfl; rw [add_none, add_none, Nat.zero_add] at this; exact this
  have v1 : w3.cell? ⟨g, m' * 4 + 1, none⟩ = some (.int .i64 (nC b.xs b.rate m')) := by have := hc2 1 _ rfl; rw [add_none, add_none, Nat.zero_add] at this; exact this
  have v2 : w3.cell? ⟨g, m' * 4 + 2, none⟩ = some (.int .i64 (cC b.xs b.rate m')) := by have := hc2 2 _ rfl; rw [add_none, add_none, Nat.zero_add] at this; exact this
  have v3 : w3.cell? ⟨g, m' * 4 + 3, none⟩ = some (.int .i64 (mC b.xs b.rate m')) := by have := hc2 3 _ rfl; rw [add_none, add_none, Nat.zero_add] at this; exact this
  clear hc1 hc2
  have HLg := Lib.hid hadB
  have hki : (k : Int) < (top : Int) := by omega
  have hmi : (m' : Int) < (top : Int) := by omega
  have i1 : b.age - b.f = (k : Int) := by omega
  have i2 : b.age + b.n - b.f = (m' : Int) := by omega
  have hs3 : w.heap.size < w3.heap.size := HX3.out.lt
  have hs5 : g < w3.heap.size := hadB
  have hk0 : 0 ≤ (k : Int) := by omega
  have hm0 : 0 ≤ (m' : Int) := by omega
  clear hk hq hm' hadB htop
  have HC1 := Lib.hid (two_new w3 (colRow b.xs b.rate k).toArray (colRow b.xs b.rate m').toArray 101 101)
  have HC2 := Lib.hid (two_new w3 (colRow b.xs b.rate m').toArray (colRow b.xs b.rate k).toArray 101 101)
  go_upto_region 6 with (fail)
  go_cut [16, 17, 18] (fun p r z wx => ∃ G H : Nat, p = .pointer (some ⟨G, 0, none⟩) ∧ r = .pointer (some ⟨H, 0, none⟩) ∧ z = .int .i64 0 ∧ w3.heap.size ≤ G ∧ w3.heap.size ≤ H ∧ Hid (Blk wx G 101 (colRow b.xs b.rate k).toArray) ∧ Hid (Blk wx H 101 (colRow b.xs b.rate m').toArray) ∧ Hid (Below w3.heap.size w3 wx))
  case first =>
    go_region
    all_goals go_wp2_with fail
    all_goals go_meet
    all_goals first | exact ⟨_, _, rfl, rfl, rfl, Nat.le_refl _, Nat.le_succ _, Lib.hid HC1.out.1, Lib.hid HC1.out.2.1, Lib.hid HC1.out.2.2⟩ | exact ⟨_, _, rfl, rfl, rfl, Nat.le_succ _, Nat.le_refl _, Lib.hid HC2.out.2.1, Lib.hid HC2.out.1, Lib.hid HC2.out.2.2⟩
  clear HC1 HC2 u0 u1 u2 u3 v0 v1 v2 v3 x0
  obtain ⟨G, H, rfl, rfl, rfl, hG, hH, HKG, HKH, HBc⟩ := hcut
  have HXc := Lib.hid (HX3.out.below' HBc.out); have HYc := Lib.hid (HY3.out.below' HBc.out); have HZc := Lib.hid (HZ3.out.below' HBc.out)
  have HSc := Lib.hid (HS3.out.past HBc.out)
  have hbwc := hbw3.trans (HBc.out.mono hbw3.size)
  have HLc := Lib.hid (HL.out.past HBc.out)
  have c0 : wc.cell? ⟨G, 0, none⟩ = some (.int .i64 (dC b.xs b.rate k)) := HKG.out.cell 0
  have HZL := Lib.hid HZ3.out.lt
  clear HX3 HY3 HZ3 HS3 HL hbw3 HBc
  by_cases hd : dC b.xs b.rate k = 0
  · have Q := Lib.hid (show b.code = 5 by rw [HCD.out, HE.out, if_pos hd])
    rw [hd] at c0
    have H1c : Hid (∀ v ∈ ([.int .i64 0, .int .i64 0, .int .i64 0] : List Value), v.oneCell' = true) := Lib.hid (by simp [Value.oneCell'])
    go_wp2_with (first | (refine wpList_store_agg rfl 60 _ _ rfl (w.heap.size + 2) 0 [.int .i64 0, .int .i64 0, .int .i64 0] rfl rfl 60 #[.int .i64 0, .int .i64 0, .int .i64 0] HZc.out PriceT.size (by simp) H1c.out ?_))
    intro w9 hR9 hg9 _
    have hR9' : Blk w9 (w.heap.size + 2) 60 #[.int .i64 0, .int .i64 0, .int .i64 0] := hR9
    have r0 : w9.cell? ⟨w.heap.size + 2, 0, none⟩ = some (.int .i64 0) := hR9'.cell 0
    have r1 : w9.cell? ⟨w.heap.size + 2, 1, none⟩ = some (.int .i64 0) := hR9'.cell 1
    have r2 : w9.cell? ⟨w.heap.size + 2, 2, none⟩ = some (.int .i64 0) := hR9'.cell 2
    go_wp2
    refine bodyPost_ret (v := .tuple #[.int .i64 0, .agg #[.int .i64 0, .int .i64 0, .int .i64 0], .int .i64 5]) (by simp [results, Tryz.results34, go_sem, r0, r1, r2]) rfl ⟨by rw [ben_bad Q.out (by decide)], (hbwc).grown hg9 (hbwc).size (fun k hk => by injection hk with hk; omega)⟩
  have HOK := Lib.hid (ben_ok (show b.code = 0 by rw [HCD.out, HE.out, if_neg hd]))
  have hd0 : ¬ dC b.xs b.rate k = 0 := hd
  clear hd
  have HV := Lib.hid (show b.val = sumF b.term 0 q by unfold Ben.val; rw [show b.n.toNat = q by have := HQ.out; omega])
  rw [HQ.out] at h4 n0 n1
  rw [HQ.out]
  go_wp2_with fail
  go_loopw [18, 82] (fun o i wr => ∃ j : Nat, j ≤ q ∧ i = .int .i64 j ∧ o = .int .i64 (sumF b.term 0 j) ∧ Hid (Below wc.heap.size wc wr)) (fun _ i _ => q - (intOf i).toNat)
  case atStart => exact ⟨0, by omega, rfl, rfl, Lib.hid (Below.refl _ _)⟩
  case round =>
    obtain ⟨j, hj, rfl, rfl, HR⟩ := hrel
    have HXr := Lib.hid (HXc.out.below' HR.out); have HYr := Lib.hid (HYc.out.below' HR.out); have HZr := Lib.hid (HZc.out.below' HR.out)
    have HGr := Lib.hid (HKG.out.below' HR.out); have HHr := Lib.hid (HKH.out.below' HR.out)
    have HSr := Lib.hid (HSc.out.past HR.out)
    by_cases hlt : j < q
    · have hji : (j : Int) < (q : Int) := by omega
      obtain ⟨kj, hkj⟩ : ∃ kj, k + j = kj := ⟨_, rfl⟩
      have hkjt : kj < top := by have := HM.out; omega
      have hkji : (kj : Int) < (top : Int) := by omega
      have hkj0 : 0 ≤ (kj : Int) := by omega
      have i3 : b.age + (j : Int) - b.f = (kj : Int) := by have := HK.out; omega
      obtain ⟨ad2, had2, hadB2, _, hc3⟩ := (HLc.out.past HR.out).at' (colRows_get (xs := b.xs) (rate := b.rate) hkjt)
      injection had2 with had2; subst had2
      have w0 : wr.cell? ⟨g, kj * 4, none⟩ = some (.int .i64 (dC b.xs b.rate kj)) := by have := hc3 0 _ rfl; rw [add_none, add_none, Nat.zero_add] at this; exact this
      have q0 := fun y : Past wr => Past.cell w0 y
      have q1 := fun y : Past wr => Past.cell (p := ⟨w.heap.size, 0, none⟩) (v := .int .i64 b.f) (HXr.out.cell 0) y
      have q2 := fun y : Past wr => Past.cell (p := ⟨G, 0, none⟩) (v := .int .i64 (dC b.xs b.rate k)) (HGr.out.cell 0) y
      have hcY := Lib.hid (Blk.agg_past (cs := [.int .i64 b.g, .slice B m d]) HYr.out 0 [.int .i64 b.g, .slice B m d] rfl)
      have H1 := Lib.hid (fun y : Past wr => (show Calls Tryz.prog 70 #[.agg #[.int .i64 b.g, .slice B m d], .int .i64 (b.age + (j : Int))] y.1 (fun e w' => e = .returned (.int .i64 (b.week j)) ∧ Below y.1.heap.size y.1 w') from impl_SickTable_weeks_any b.g B m d b.ws (b.age + (j : Int)) y.1 (HSr.out.at_past y) ⟨HOK.out.sick.first0, HOK.out.sick.first1⟩ ⟨by omega, by omega⟩))
      obtain ⟨p0, p1⟩ := ben_pay HOK.out j
      obtain ⟨d1, d2, d3⟩ := ben_d HOK.out j
      have d4 := HOK.out.d0
      have H4 := Lib.hid (fun y : Past wr => impl_priced_any (b.pay * b.week j) (b.d j) (1000 * b.d 0) y.1 ⟨p0, by omega⟩ ⟨d1, by omega⟩ ⟨by omega, by omega⟩ (by have := ben_quo HOK.out j; omega))
      obtain ⟨s0, s1⟩ := ben_part HOK.out j (by omega)
      obtain ⟨t0, t1⟩ := ben_term HOK.out j
      have HN := Lib.hid (show sumF b.term 0 (j + 1) = sumF b.term 0 j + b.term j by rw [sumF_snoc, Nat.zero_add])
      have HTM := Lib.hid (show upP (b.pay * b.week j) (b.d j) (1000 * b.d 0) = b.term j from rfl)
      rw [HTM.out] at H4
      have HDJ := Lib.hid (show b.d j = dC b.xs b.rate kj by unfold Ben.d; rw [HE.out, hkj])
      have HD0 := Lib.hid (show b.d 0 = dC b.xs b.rate k by unfold Ben.d; rw [HE.out, Nat.add_zero])
      rw [HDJ.out, HD0.out] at H4
      rw [HDJ.out, HD0.out] at d2
      rw [HDJ.out] at d1
      rw [HD0.out] at d3 d4
      clear HTM HDJ HD0 hd0 hkj w0 hc3
      generalize b.week j = wk at H1 H4 p0 p1
      generalize dC b.xs b.rate kj = dk at q0 H4 d1 d2
      generalize dC b.xs b.rate k = dz at q2 H4 d2 d3 d4
      generalize b.term j = tk at H4 HN t0 t1
      generalize sumF b.term 0 j = sk at HN s0 s1 ⊢
      change Hid _ at H1; change Hid _ at H4; change Hid _ at HN
      go_wp2
      refine wp_region_past (by kernel_rfl) (by kernel_rfl) ?_
      repeat (first | (go_big_quiet_want; (first | (refine quiet_load_agg 28 _ rfl ⟨w.heap.size + 1, 0, none⟩ rfl [.int .i64 b.g, .slice B m d] hcY.out _ Tryz.underlying28 rfl SickT.size ?_)); go_simp; go_big_quiet_on) | go_big_quiet_step ((first | (go_at_call 70; exact past_call (H1.out _)) | (go_at_call 37; exact past_call (H4.out _)))))
      refine wpQuiet_nil ?_
      rintro _ ⟨y, rfl⟩
      have HR2 := Lib.hid (HR.out.trans (y.2.mono HR.out.size))
      go_wp2
      go_roundw
      case rel => exact ⟨j + 1, by omega, by go_num, by rw [HN.out], HR2⟩
      case measure => simp [intOf]; omega
    · have hjq : j = q := by omega
      subst hjq
      have g0 : wr.cell? ⟨G, 0, none⟩ = some (.int .i64 (dC b.xs b.rate k)) := HGr.out.cell 0
      have g1 : wr.cell? ⟨G, 1, none⟩ = some (.int .i64 (nC b.xs b.rate k)) := HGr.out.cell 1
      have h1 : wr.cell? ⟨H, 1, none⟩ = some (.int .i64 (nC b.xs b.rate m')) := HHr.out.cell 1
      have z0 := HZr.out.frozen 0; have z1 := HZr.out.frozen 1; have z2 := HZr.out.frozen 2
      have e0 : wr.cell? ⟨w.heap.size + 2, 0, none⟩ = some (.int .i64 0) := HZr.out.cell 0
      have e1 : wr.cell? ⟨w.heap.size + 2, 1, none⟩ = some (.int .i64 0) := HZr.out.cell 1
      have e2 : wr.cell? ⟨w.heap.size + 2, 2, none⟩ = some (.int .i64 0) := HZr.out.cell 2
      have c1 := nC_bound HOK.out.tab HOK.out.rate0 k
      have c2 := nC_bound HOK.out.tab HOK.out.rate0 m'
      have c3 := dC_bound HOK.out.tab HOK.out.rate0 k
      have c4 := dC_bound HOK.out.tab HOK.out.rate0 m'
      have HPD := Lib.hid (show nC b.xs b.rate k - nC b.xs b.rate m' = b.paid by unfold Ben.paid; rw [HE.out, show b.n.toNat = j by have := HQ.out; omega, HM.out])
      have HD0 := Lib.hid (show b.d 0 = dC b.xs b.rate k by unfold Ben.d; rw [HE.out, Nat.add_zero])
      have hz2 : w.heap.size + 2 < wr.heap.size := HZr.out.lt
      have hGs : w.heap.size + 2 < G := Nat.lt_of_lt_of_le HZL.out hG
      go_wp2
      go_region
      have hPD := HPD.out
      have hD0 := HD0.out
      change nC b.xs b.rate k - nC b.xs b.rate m' = b.paid at hPD
      change b.d 0 = dC b.xs b.rate k at hD0
      have hbr : Below w.heap.size w wr := hbwc.trans (HR.out.mono hbwc.size)
      have hBE := (((hbr.setCell (p := ⟨w.heap.size + 1 + 1, 0, none⟩) (by show w.heap.size ≤ w.heap.size + 1 + 1; omega) (.int .i64 0)).setCell (p := ⟨w.heap.size + 1 + 1, 1, none⟩) (by show w.heap.size ≤ w.heap.size + 1 + 1; omega) (.int .i64 (dC b.xs b.rate k))).setCell (p := ⟨w.heap.size + 1 + 1, 2, none⟩) (by show w.heap.size ≤ w.heap.size + 1 + 1; omega) (.int .i64 (nC b.xs b.rate k - nC b.xs b.rate m'))).drew
      have hKE : Blk (((wr.setCell ⟨w.heap.size + 1 + 1, 0, none⟩ (.int .i64 0)).setCell ⟨w.heap.size + 1 + 1, 1, none⟩ (.int .i64 (dC b.xs b.rate k))).setCell ⟨w.heap.size + 1 + 1, 2, none⟩ (.int .i64 (nC b.xs b.rate k - nC b.xs b.rate m'))).drew (w.heap.size + 1 + 1) 60 #[.int .i64 0, .int .i64 (dC b.xs b.rate k), .int .i64 (nC b.xs b.rate k - nC b.xs b.rate m')] :=
        (((HZr.out.set_ 0 (.int .i64 0)).set_ 1 (.int .i64 (dC b.xs b.rate k))).set_ 2 (.int .i64 (nC b.xs b.rate k - nC b.xs b.rate m'))).drew
      generalize (((wr.setCell ⟨w.heap.size + 1 + 1, 0, none⟩ (.int .i64 0)).setCell ⟨w.heap.size + 1 + 1, 1, none⟩ (.int .i64 (dC b.xs b.rate k))).setCell ⟨w.heap.size + 1 + 1, 2, none⟩ (.int .i64 (nC b.xs b.rate k - nC b.xs b.rate m'))).drew = W9 at hBE hKE ⊢
      have r0 : W9.cell? ⟨w.heap.size + 1 + 1, 0, none⟩ = some (.int .i64 0) := hKE.cell 0
      have r1 : W9.cell? ⟨w.heap.size + 1 + 1, 1, none⟩ = some (.int .i64 (dC b.xs b.rate k)) := hKE.cell 1
      have r2 : W9.cell? ⟨w.heap.size + 1 + 1, 2, none⟩ = some (.int .i64 (nC b.xs b.rate k - nC b.xs b.rate m')) := hKE.cell 2
      have HVV := Lib.hid (show b.code = 0 by rw [HCD.out, HE.out, if_neg hd0])
      clear e0 e1 e2 z0 z1 z2 g0 g1 h1 hKE
      go_wp2
      refine bodyPost_ret (v := .tuple #[.int .i64 (sumF b.term 0 j), .agg #[.int .i64 0, .int .i64 (dC b.xs b.rate k), .int .i64 (nC b.xs b.rate k - nC b.xs b.rate m')], .int .i64 0]) (by simp [results, Tryz.results34, go_sem, r0, r1, r2]) rfl ⟨by rw [ben_good HVV.out, HV.out, hPD, hD0], hBE⟩

set_option maxHeartbeats 4000000 in
theorem impl_SickValue_any (b : Ben) (A : Option Addr) (n c : Nat) (B : Option Addr) (m d : Nat) (w : World) (hT : LiesT w A n b.xs) (hc : n ≤ c) (hf : In64 b.f) (hS : LiesT w B m b.ws) :
    Calls Tryz.prog 7 #[.agg #[.int .i64 b.f, .slice A n c], .agg #[.int .i64 b.g, .slice B m d], .int .i64 b.rate, .int .i64 b.age, .int .i64 b.n, .int .i64 b.pay] w fun e w' => e = .returned (.tuple #[.int .i64 b.v, .int .i64 b.code]) ∧ Below w.heap.size w w' := by
  obtain ⟨hbw, hX, hY, hz⟩ := two_boxes w [.int .i64 b.f, .slice A n c] [.int .i64 b.g, .slice B m d] 26 28
  have HX := Lib.hid hX; have HY := Lib.hid hY
  have HT := Lib.hid (hT.past hbw); clear hT
  have HS := Lib.hid (hS.past hbw); clear hS
  clear hX hY
  go_enter Tryz.func7, Tryz.ntmps7
  go_upto_region 1 with (fail)
  generalize (w.alloc _).alloc _ = W at hbw HX HY HT HS hz ⊢
  have hcX := Lib.hid (Blk.agg (cs := [.int .i64 b.f, .slice A n c]) HX.out 0 [.int .i64 b.f, .slice A n c] rfl)
  have hcY := Lib.hid (Blk.agg (cs := [.int .i64 b.g, .slice B m d]) HY.out 0 [.int .i64 b.g, .slice B m d] rfl)
  go_wp2_with (first | (refine wpList_load_agg rfl 26 _ rfl ⟨w.heap.size, 0, none⟩ rfl [.int .i64 b.f, .slice A n c] hcX.out _ Tryz.underlying26 rfl Tab.size ?_) | (refine wpList_load_agg rfl 28 _ rfl ⟨w.heap.size + 1, 0, none⟩ rfl [.int .i64 b.g, .slice B m d] hcY.out _ Tryz.underlying28 rfl SickT.size ?_))
  refine (impl_sickValue_any b A n c B m d _ HT.out hc hf HS.out).mono ?_
  rintro e w1 ⟨rfl, hb⟩
  have HB1 := Lib.hid (hbw.trans (hb.mono hbw.size))
  clear HX HY HT HS hcX hcY hb hbw hz
  go_wp2
  go_ret2
  exact ⟨rfl, HB1.out.alloc HB1.out.size _⟩

set_option maxHeartbeats 4000000 in
theorem impl_SickPremium_any (b : Ben) (A : Option Addr) (n c : Nat) (B : Option Addr) (m d : Nat) (w : World) (hT : LiesT w A n b.xs) (hc : n ≤ c) (hf : In64 b.f) (hS : LiesT w B m b.ws) :
    Calls Tryz.prog 9 #[.agg #[.int .i64 b.f, .slice A n c], .agg #[.int .i64 b.g, .slice B m d], .int .i64 b.rate, .int .i64 b.age, .int .i64 b.n, .int .i64 b.pay] w fun e w' => e = .returned (.tuple #[.int .i64 b.p, .int .i64 b.code]) ∧ Below w.heap.size w w' := by
  obtain ⟨hbw, hX, hY, hz⟩ := two_boxes w [.int .i64 b.f, .slice A n c] [.int .i64 b.g, .slice B m d] 26 28
  have HX := Lib.hid hX; have HY := Lib.hid hY
  have HT := Lib.hid (hT.past hbw); clear hT
  have HS := Lib.hid (hS.past hbw); clear hS
  clear hX hY
  go_enter Tryz.func9, Tryz.ntmps9
  go_upto_region 1 with (fail)
  generalize (w.alloc _).alloc _ = W at hbw HX HY HT HS hz ⊢
  have hcX := Lib.hid (Blk.agg (cs := [.int .i64 b.f, .slice A n c]) HX.out 0 [.int .i64 b.f, .slice A n c] rfl)
  have hcY := Lib.hid (Blk.agg (cs := [.int .i64 b.g, .slice B m d]) HY.out 0 [.int .i64 b.g, .slice B m d] rfl)
  go_wp2_with (first | (refine wpList_load_agg rfl 26 _ rfl ⟨w.heap.size, 0, none⟩ rfl [.int .i64 b.f, .slice A n c] hcX.out _ Tryz.underlying26 rfl Tab.size ?_) | (refine wpList_load_agg rfl 28 _ rfl ⟨w.heap.size + 1, 0, none⟩ rfl [.int .i64 b.g, .slice B m d] hcY.out _ Tryz.underlying28 rfl SickT.size ?_))
  refine (impl_sickValue_any b A n c B m d _ HT.out hc hf HS.out).mono ?_
  rintro e w1 ⟨rfl, hb⟩
  have HB1 := Lib.hid (hbw.trans (hb.mono hbw.size))
  clear HX HY HT HS hcX hcY hb hbw hz
  by_cases h0 : b.code = 0
  rotate_left
  · have QV := Lib.hid (show b.p = 0 from if_neg h0)
    obtain ⟨z, hzz⟩ : ∃ z, b.code = z := ⟨_, rfl⟩
    have HZZ := Lib.hid hzz
    rw [hzz] at h0 ⊢
    clear hzz
    generalize b.v = x; generalize b.v1 = x1; generalize b.v2 = x2
    go_wp2
    go_ret2
    exact ⟨by rw [QV.out, HZZ.out]; rfl, HB1.out.alloc HB1.out.size _⟩
  · have QV := Lib.hid (show b.p = b.prem from if_pos h0)
    have HC0 := Lib.hid h0
    have HOK := Lib.hid (ben_ok h0)
    rw [h0, show b.v = b.val from if_pos h0, show b.v1 = b.d 0 from if_pos h0, show b.v2 = b.paid from if_pos h0]
    clear h0
    obtain ⟨v0, v1⟩ := ben_val HOK.out
    obtain ⟨p0, p1⟩ := ben_paid HOK.out
    obtain ⟨_, _, d3⟩ := ben_d HOK.out 0
    have d4 := HOK.out.d0
    have H4 := Lib.hid (fun y : World => (show Calls Tryz.prog 37 #[.int .i64 b.val, .int .i64 (b.d 0), .int .i64 b.paid] y (fun e w' => e = .returned (.int .i64 b.prem) ∧ Below y.heap.size y w') from impl_priced_any b.val (b.d 0) b.paid y ⟨v0, by omega⟩ ⟨by omega, by omega⟩ ⟨by omega, by omega⟩ (by have := ben_pquo HOK.out; omega)))
    generalize b.val = x at H4 ⊢; generalize b.d 0 = x1 at H4 ⊢; generalize b.paid = x2 at H4 ⊢
    clear v0 v1 p0 p1 d3 d4
    change Hid _ at H4
    go_wp2_with fail
    have HB2 := Lib.hid (HB1.out.alloc HB1.out.size (.cells #[.int .i64 0, .int .i64 x1, .int .i64 x2] 60))
    refine (H4.out _).mono ?_
    rintro e w2 ⟨rfl, hb2⟩
    have HB3 := Lib.hid (HB2.out.trans (hb2.mono HB2.out.size))
    clear hb2
    go_wp2
    go_ret2
    exact ⟨by rw [QV.out, HC0.out]; rfl, HB3.out⟩
end Go.Proofs.YtkdfdbcpbgganaaGreatDoor
end

/- The laws' own helpers: equal lists are like each other; the sum of a list. -/
section
namespace Go.Proofs.YtkdfdbcpbgganaaGreatDoor
open Go.RowKit Go.BigFrame

theorem likeInts_any (A : Option Addr) (n cap : Nat) (A2 : Option Addr) (cap2 : Nat) (xs : List Int) (w : World) (hl : xs.length = n) (hn : n ≤ 1048576) (hX : Rd w w.heap.size A 1 (intRows xs)) (hX2 : Rd w w.heap.size A2 1 (intRows xs)) :
    Calls Tryz.prog 49 #[.slice A n cap, .slice A2 n cap2] w fun e w' => e = .returned (.bool true) ∧ Below w.heap.size w w' := by
  have HX := Lib.hid hX; clear hX
  have HX2 := Lib.hid hX2; clear hX2
  have HL := Lib.hid hl; clear hl
  go_enter Tryz.func49, Tryz.ntmps49
  go_wp2
  go_loopw [5] (fun i wr => ∃ k : Nat, k ≤ n ∧ i = .int .i64 k ∧ Below w.heap.size w wr) (fun i _ => n - (intOf i).toNat)
  case atStart => exact ⟨0, by omega, rfl, Below.refl _ _⟩
  case round =>
    obtain ⟨k, hk, rfl, hb⟩ := hrel
    by_cases hlt : k < n
    · obtain ⟨x, hx⟩ := get_of_lt (xs := xs) (k := k) (by rw [HL.out]; exact hlt)
      obtain ⟨ad, rfl, had, hc⟩ := (HX.out.past hb).int_at hx
      obtain ⟨ad2, rfl, had2, hc2⟩ := (HX2.out.past hb).int_at hx
      clear hx
      have d0 := fun y : Past wr => Past.cell hc y
      have d1 := fun y : Past wr => Past.cell hc2 y
      have hki : (k : Int) < (n : Int) := by omega
      clear hc hc2
      go_wp2
      refine wp_region_past (by kernel_rfl) (by kernel_rfl) ?_
      repeat (go_big_quiet_step (fail))
      refine wpQuiet_nil ?_
      rintro _ ⟨y, rfl⟩
      go_wp2
      go_roundw
      case rel => exact ⟨k + 1, by omega, by go_num, hb.trans (y.2.mono hb.size)⟩
      case measure => simp [intOf]; omega
    · have hki : ¬ (k : Int) < (n : Int) := by omega
      go_wp2
      go_ret
      exact ⟨rfl, hb⟩

def SumOk (xs : List Int) : Prop := ∀ k : Nat, -4000000000000000000 ≤ (xs.take k).sum ∧ (xs.take k).sum ≤ 4000000000000000000
theorem takeSum_snoc {xs : List Int} {k : Nat} {x : Int} (hx : xs[k]? = some x) : (xs.take (k + 1)).sum = (xs.take k).sum + x := by
  rw [take_succ_snoc hx]; simp
theorem sumOk_of {lo hi : Int} (h0 : lo ≤ 0) (h1 : 0 ≤ hi) {n : Nat} : ∀ (xs : List Int), xs.length ≤ n → (∀ x ∈ xs, lo ≤ x ∧ x ≤ hi) → lo * (n : Int) ≤ xs.sum ∧ xs.sum ≤ hi * (n : Int)
  | [], _, _ => by
    simp only [List.sum_nil]
    exact ⟨by have := Int.mul_nonneg (show 0 ≤ -lo by omega) (show (0 : Int) ≤ n by omega); rw [Int.neg_mul] at this; omega, Int.mul_nonneg h1 (by omega)⟩
  | x :: r, hl, h => by
    cases n with
    | zero => simp at hl
    | succ n =>
      obtain ⟨h2, h3⟩ := sumOk_of h0 h1 (n := n) r (by simpa using hl) fun y hy => h y (by simp [hy])
      have h4 := h x (by simp)
      simp only [List.sum_cons]
      have e1 : lo * ((n + 1 : Nat) : Int) = lo * (n : Int) + lo := by rw [Int.natCast_add, Int.mul_add]; simp
      have e2 : hi * ((n + 1 : Nat) : Int) = hi * (n : Int) + hi := by rw [Int.natCast_add, Int.mul_add]; simp
      omega
theorem SumOk.of {lo hi : Int} {xs : List Int} {n : Nat} (h0 : lo ≤ 0) (h1 : 0 ≤ hi) (hl : xs.length ≤ n) (h : ∀ x ∈ xs, lo ≤ x ∧ x ≤ hi) (hb : -4000000000000000000 ≤ lo * (n : Int) ∧ hi * (n : Int) ≤ 4000000000000000000) : SumOk xs := fun k => by
  have := sumOk_of h0 h1 (n := n) (xs.take k) (by simp; omega) fun x hx => h x (List.mem_of_mem_take hx)
  omega

end Go.Proofs.YtkdfdbcpbgganaaGreatDoor
end

/- What the law on life tables leans on: tables are compared; what a table's text says. -/
section
namespace Go.Proofs.YtkdfdbcpbgganaaGreatDoor
open Go.RowKit Go.BigFrame
theorem numsL_ne (n : Int) (ns : List Int) : numsL (n :: ns) ≠ [] := by
  intro h
  have h1 := cut_nums (n :: ns) (by simp)
  rw [h] at h1
  have h2 : ([] : List UInt8) = decL n := by
    have h3 := congrArg (fun l => l[0]?) h1
    simpa [cutL] using h3
  have h4 := dec_pos n.toNat
  have h5 : decL n = Lib.decDigits n.toNat := rfl
  rw [← h5, ← h2] at h4
  simp at h4
theorem textP_yes {f : Int} {xs : List Int} (h : tableB f xs = true) : textP f xs = numsL (f :: xs) := by unfold textP; rw [if_pos h]
theorem textP_no {f : Int} {xs : List Int} (h : tableB f xs = false) : textP f xs = [] := by unfold textP; rw [h]; rfl
theorem isEmpty_S {l : List UInt8} (h : l ≠ []) : (S l).toList.isEmpty = false := isEmpty_ne (fun e => h (S_inj (e.trans (show (⟨#[]⟩ : ByteArray) = S [] from rfl))))
theorem lives_end {f age : Int} {xs : List Int} (h : tableB f xs = true) (h0 : f ≤ age) (h1 : age ≤ 150) : lv xs ((age - f).toNat + (151 - age).toNat) = 0 := by
  have T := table_ok h
  have h2 := T.top
  exact T.zero _ (by omega)
theorem deaths_at {f a : Int} {xs : List Int} (h : tableB f xs = true) (h0 : f ≤ a) (h1 : a ≤ 150) : deathsP f xs a = (lv xs (a - f).toNat - lv xs ((a - f).toNat + 1), 0) := by
  unfold deathsP
  have h2 : ageP f xs a = 0 := by unfold ageP; rw [if_pos h, if_pos (inR_true.2 ⟨h0, h1⟩)]
  rw [if_pos h2]
theorem deaths_good {f a : Int} {xs : List Int} (h : (deathsP f xs a).2 = 0) : ageP f xs a = 0 ∧ (livesP f xs a).1 = lv xs (a - f).toNat := by
  have h1 : ageP f xs a = 0 := by
    unfold deathsP at h
    split at h
    · rename_i h2; exact h2
    · exact h
  refine ⟨h1, ?_⟩
  unfold livesP
  rw [if_pos h1]
theorem codes_eq (f a : Int) (xs : List Int) : (livesP f xs a).2 = (deathsP f xs a).2 := by
  unfold livesP deathsP
  split <;> rfl
end Go.Proofs.YtkdfdbcpbgganaaGreatDoor
end

/- What the law on sickness benefits leans on: tables are compared; what a table's text says. -/
section
namespace Go.Proofs.YtkdfdbcpbgganaaGreatDoor
open Go.RowKit Go.BigFrame
set_option maxHeartbeats 1000000 in
theorem likeSicks9_any (f : Int) (A : Option Addr) (n cap : Nat) (A2 : Option Addr) (cap2 : Nat) (xs : List Int) (w : World) (hl : xs.length = n) (hn : n ≤ 1048576) (hX : Rd w w.heap.size A 1 (intRows xs)) (hX2 : Rd w w.heap.size A2 1 (intRows xs)) :
    Calls Tryz.prog 16 #[.agg #[.int .i64 f, .slice A n cap], .agg #[.int .i64 f, .slice A2 n cap2]] w fun e w' => e = .returned (.bool true) ∧ Below w.heap.size w w' := by
  have hb : Below w.heap.size w ((w.alloc (.cells #[.int .i64 f, .slice A n cap] 28)).alloc (.cells #[.int .i64 f, .slice A2 n cap2] 28)) := ((Below.refl _ w).alloc (Nat.le_refl _) _).alloc (by simp) _
  have HX := Lib.hid (hX.past hb)
  have HX2 := Lib.hid (hX2.past hb)
  have HB := Lib.hid hb
  clear hX hX2 hb
  go_enter Tryz.func16, Tryz.ntmps16
  go_wp2_with (go_at_call 49; refine (likeInts_any A n cap A2 cap2 xs _ hl hn HX.out HX2.out).mono ?_; rintro e w' ⟨rfl, hb⟩)
  go_ret
  exact ⟨rfl, HB.out.trans (hb.mono HB.out.size)⟩
theorem sickP_yes {f : Int} {xs : List Int} (h : sickB f xs = true) : sickP f xs = numsL (f :: xs) := by unfold sickP; rw [if_pos h]
theorem sickP_no {f : Int} {xs : List Int} (h : sickB f xs = false) : sickP f xs = [] := by unfold sickP; rw [h]; rfl
theorem code_sick {b : Ben} (h : sickB b.g b.ws = false) : b.code = 1 := by unfold Ben.code; rw [h]; rfl
theorem less_facts {b : Ben} (h : b.code = 0) (h1 : b.n ≠ 1) : b.less.code = 0 ∧ b.less.v ≤ b.v ∧ b.p ≤ b.v := by
  have B := ben_ok h
  have L := less_ok B h1
  have hc := ben_code L
  refine ⟨hc, ?_, ?_⟩
  · rw [show b.less.v = b.less.val from if_pos hc, show b.v = b.val from if_pos h]
    exact less_val B
  · rw [show b.p = b.prem from if_pos h, show b.v = b.val from if_pos h]
    exact (ben_prem B).2
end Go.Proofs.YtkdfdbcpbgganaaGreatDoor
end
