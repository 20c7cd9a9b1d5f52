/- Values of assurances, whether policies are valid, premiums: the program's contracts. -/
import Derived.Test.YthcnkcoplgdlkaaCols
import Derived.Test.YthcnkcoplgdlkaaPolS2
namespace Go.Proofs.Ythcnkcoplgdlkaa
open Go.RowKit Go.BigFrame

theorem impl_IsBasis_any (b : Bas) (A : Option Addr) (n cap : Nat) (w : World) (hB : BasT w A n cap b) :
    Calls Try.prog 84 #[.agg #[.int .i64 b.first, .slice A n cap, .int .i64 b.rate]] w fun e w' => e = .returned (.bool (basisB b)) ∧ Below w.heap.size w w' := by
  have hbw : Below w.heap.size w (w.alloc (.cells #[.int .i64 b.first, .slice A n cap, .int .i64 b.rate] 32)) := (Below.refl _ w).alloc (Nat.le_refl _) _
  have HB := Lib.hid (Blk.new w 32 #[.int .i64 b.first, .slice A n cap, .int .i64 b.rate])
  have HBT := Lib.hid (hB.past hbw); clear hB
  cases h1 : tableB b.first b.lives
  · have Q := Lib.hid (show basisB b = false by simp [basisB, h1])
    go_enter Try.func84, Try.ntmps84
    go_wp2_with fail
    refine (impl_IsLifeTable_any b.first A n cap b.lives _ HBT.out.lives HBT.out.cap HBT.out.first).mono ?_
    rw [h1]
    rintro e w1 ⟨rfl, hb1⟩
    go_wp2
    go_ret
    exact ⟨by rw [Q.out]; rfl, hbw.trans (hb1.mono (by simp))⟩
  · have Q := Lib.hid (show basisB b = inR b.rate 0 200 by simp [basisB, h1])
    go_enter Try.func84, Try.ntmps84
    go_wp2_with fail
    refine (impl_IsLifeTable_any b.first A n cap b.lives _ HBT.out.lives HBT.out.cap HBT.out.first).mono ?_
    rw [h1]
    rintro e w1 ⟨rfl, hb1⟩
    have c2 : w1.cell? ⟨w.heap.size, 2, none⟩ = some (.int .i64 b.rate) := (HB.out.below' hb1).cell 2
    go_wp2_with (first | (go_at_call 86; refine (impl_isRate_any _ _).mono ?_; rintro e w' ⟨rfl, rfl⟩))
    go_ret
    exact ⟨by rw [Q.out]; rfl, hbw.trans (hb1.mono (by simp))⟩

set_option maxHeartbeats 1000000 in
theorem impl_Basis_at_any (b : Bas) (A : Option Addr) (n cap : Nat) (L : Option Addr) (top lc : Nat) (age : Int) (w : World) (hR : Rd w w.heap.size L 4 (colRows b.lives b.rate top)) (hf : 0 ≤ b.first ∧ b.first ≤ 100) (ha : b.first ≤ age ∧ age ≤ 1000) (hk : b.ix age < top) (ht : top ≤ 1000) :
    Calls Try.prog 175 #[.agg #[.int .i64 b.first, .slice A n cap, .int .i64 b.rate], .slice L top lc, .int .i64 age] w fun e w' => e = .returned (.agg (colRow b.lives b.rate (b.ix age)).toArray) ∧ Below w.heap.size w w' := by
  have hbw : Below w.heap.size w ((w.alloc (.cells #[.int .i64 b.first, .slice A n cap, .int .i64 b.rate] 32)).alloc (.cells #[.int .i64 0, .int .i64 0, .int .i64 0, .int .i64 0] 168)) := ((Below.refl _ w).alloc (Nat.le_refl _) _).alloc (by simp) _
  obtain ⟨a1, a2⟩ := ha
  obtain ⟨f1, f2⟩ := hf
  obtain ⟨k, hk'⟩ := Int.eq_ofNat_of_zero_le (show 0 ≤ age - b.first by omega)
  have HE := Lib.hid (show b.ix age = k by unfold Bas.ix; omega)
  rw [HE.out] at hk ⊢
  have hki : (k : Int) < (top : Int) := by omega
  obtain ⟨ad, rfl, had, _, hc⟩ := hR.at' (colRows_get hk)
  have Hc := Lib.hid (fun j v hv => (hbw.cell (p := (ad.add (k * 4)).add j) (by rw [block_of_add, block_of_add]; exact had)).trans (hc j v hv)); clear hc hR
  go_enter Try.func175, Try.ntmps175
  go_wp2_with (refine wpList_load_agg rfl 168 _ rfl (ad.add (k * 4)) rfl (colRow b.lives b.rate k) Hc.out _ Try.underlying168 rfl Columns.size ?_)
  refine bodyPost_ret (v := .agg (colRow b.lives b.rate k).toArray) (by simp [results, Try.results175, go_sem]) rfl ⟨rfl, ?_⟩
  repeat (first | exact Below.refl _ _ | refine Below.alloc ?_ (by simp <;> omega) _ | refine Below.setCell ?_ (by simp <;> omega) _ | refine Below.drew ?_)

set_option maxHeartbeats 1000000 in
theorem impl_isAssurance_any (b : Bas) (A : Option Addr) (n cap : Nat) (kind age yrs sum : Int) (w : World) (hf : 0 ≤ b.first ∧ b.first ≤ 100) :
    Calls Try.prog 168 #[.agg #[.int .i64 b.first, .slice A n cap], .int .i64 b.rate, .int .i64 kind, .int .i64 age, .int .i64 yrs, .int .i64 sum] w fun e w' => e = .returned (.bool (assurB b kind age yrs sum)) ∧ Below w.heap.size w w' := by
  have hbw : Below w.heap.size w (w.alloc (.cells #[.int .i64 b.first, .slice A n cap] 30)) := (Below.refl _ w).alloc (Nat.le_refl _) _
  obtain ⟨f1, f2⟩ := hf
  have QE := Lib.hid (show (decide (yrs = 0) == decide (kind = 0)) = ((yrs == 0) == (kind == 0)) from rfl)
  cases h1 : inR kind 0 3
  · have Q := Lib.hid (show assurB b kind age yrs sum = false by simp [assurB, h1])
    go_enter Try.func168, Try.ntmps168
    go_wp2_with (first | (go_at_call 85; refine (impl_inRange_any _ _ _ _).mono ?_; rintro e w' ⟨rfl, rfl⟩) | (go_at_call 86; refine (impl_isRate_any _ _).mono ?_; rintro e w' ⟨rfl, rfl⟩))
    go_ret
    exact ⟨by rw [Q.out]; rfl, hbw⟩
  cases h2 : inR b.rate 0 200
  · have Q := Lib.hid (show assurB b kind age yrs sum = false by simp [assurB, h1, h2])
    go_enter Try.func168, Try.ntmps168
    go_wp2_with (first | (go_at_call 85; refine (impl_inRange_any _ _ _ _).mono ?_; rintro e w' ⟨rfl, rfl⟩) | (go_at_call 86; refine (impl_isRate_any _ _).mono ?_; rintro e w' ⟨rfl, rfl⟩))
    go_ret
    exact ⟨by rw [Q.out]; rfl, hbw⟩
  cases h3 : inR age b.first 150
  · have Q := Lib.hid (show assurB b kind age yrs sum = false by simp [assurB, h1, h2, h3])
    go_enter Try.func168, Try.ntmps168
    go_wp2_with (first | (go_at_call 85; refine (impl_inRange_any _ _ _ _).mono ?_; rintro e w' ⟨rfl, rfl⟩) | (go_at_call 86; refine (impl_isRate_any _ _).mono ?_; rintro e w' ⟨rfl, rfl⟩))
    go_ret
    exact ⟨by rw [Q.out]; rfl, hbw⟩
  obtain ⟨a1, a2⟩ := inR_true.1 h3
  cases h4 : inR sum 1 100000000
  · have Q := Lib.hid (show assurB b kind age yrs sum = false by simp [assurB, h1, h2, h3, h4])
    go_enter Try.func168, Try.ntmps168
    go_wp2_with (first | (go_at_call 85; refine (impl_inRange_any _ _ _ _).mono ?_; rintro e w' ⟨rfl, rfl⟩) | (go_at_call 86; refine (impl_isRate_any _ _).mono ?_; rintro e w' ⟨rfl, rfl⟩))
    go_ret
    exact ⟨by rw [Q.out]; rfl, hbw⟩
  cases h5 : inR yrs 0 120
  · have Q := Lib.hid (show assurB b kind age yrs sum = false by simp [assurB, h1, h2, h3, h4, h5])
    go_enter Try.func168, Try.ntmps168
    go_wp2_with (first | (go_at_call 85; refine (impl_inRange_any _ _ _ _).mono ?_; rintro e w' ⟨rfl, rfl⟩) | (go_at_call 86; refine (impl_isRate_any _ _).mono ?_; rintro e w' ⟨rfl, rfl⟩) | (go_at_call 193; refine (impl_isYears_any _ _).mono ?_; rintro e w' ⟨rfl, rfl⟩))
    go_ret
    exact ⟨by rw [Q.out]; rfl, hbw⟩
  obtain ⟨y1, y2⟩ := inR_true.1 h5
  by_cases h6 : age + yrs ≤ 150
  rotate_left
  · have Q := Lib.hid (show assurB b kind age yrs sum = false by simp [assurB, h6])
    have h6b : decide (age + yrs ≤ 150) = false := by simp; omega
    go_enter Try.func168, Try.ntmps168
    go_wp2_with (first | (go_at_call 85; refine (impl_inRange_any _ _ _ _).mono ?_; rintro e w' ⟨rfl, rfl⟩) | (go_at_call 86; refine (impl_isRate_any _ _).mono ?_; rintro e w' ⟨rfl, rfl⟩) | (go_at_call 193; refine (impl_isYears_any _ _).mono ?_; rintro e w' ⟨rfl, rfl⟩))
    go_ret
    exact ⟨by rw [Q.out]; rfl, hbw⟩
  · have Q := Lib.hid (show assurB b kind age yrs sum = ((yrs == 0) == (kind == 0)) by simp only [assurB, h1, h2, h3, h4, h5, h6, QE.out, decide_true, Bool.true_and])
    have h6b : decide (age + yrs ≤ 150) = true := by simp; omega
    obtain ⟨q, hq⟩ : ∃ q, ((yrs == 0) == (kind == 0)) = q := ⟨_, rfl⟩
    rw [hq] at Q
    go_enter Try.func168, Try.ntmps168
    go_wp2_with (first | (go_at_call 85; refine (impl_inRange_any _ _ _ _).mono ?_; rintro e w' ⟨rfl, rfl⟩) | (go_at_call 86; refine (impl_isRate_any _ _).mono ?_; rintro e w' ⟨rfl, rfl⟩) | (go_at_call 193; refine (impl_isYears_any _ _).mono ?_; rintro e w' ⟨rfl, rfl⟩))
    go_ret
    exact ⟨by rw [Q.out]; first | rfl | simp, hbw⟩

theorem impl_roundUp_any (a b c : Int) (w : World) (ha : 0 ≤ a ∧ a ≤ 1000000000000) (hb : 0 ≤ b ∧ b ≤ 1000000000000000000) (hc : 1 ≤ c ∧ c ≤ 1000000000000000000) (hq : a * b / c ≤ 100000000000000000) :
    Calls Try.prog 171 #[.int .i64 a, .int .i64 b, .int .i64 c] w fun e w' => e = .returned (.tuple #[.int .i64 (upP a b c), .bool true]) ∧ Below w.heap.size w w' := by
  have Q := Lib.hid (show mdP a b c = (a * b / c, a * b % c, true) by unfold mdP; rw [if_pos (by omega)])
  have h1 : 0 ≤ a * b / c := Int.ediv_nonneg (Int.mul_nonneg ha.1 hb.1) (by omega)
  have h2 : 0 ≤ a * b % c := Int.emod_nonneg _ (by omega)
  have QU := Lib.hid (show upP a b c = a * b / c + (if 0 < a * b % c then 1 else 0) from rfl)
  generalize a * b / c = q at *
  generalize a * b % c = r at *
  by_cases hr : 0 < r
  · rw [if_pos hr] at QU
    go_enter Try.func171, Try.ntmps171
    go_wp2_with fail
    refine (impl_multiplyDivide_any a b c _ ⟨by omega, by omega⟩ ⟨by omega, by omega⟩ ⟨by omega, by omega⟩).mono ?_
    rw [Q.out]
    rintro e w1 ⟨rfl, hb1⟩
    go_wp2
    go_ret2
    exact ⟨by rw [QU.out]; rfl, hb1⟩
  · rw [if_neg hr] at QU
    go_enter Try.func171, Try.ntmps171
    go_wp2_with fail
    refine (impl_multiplyDivide_any a b c _ ⟨by omega, by omega⟩ ⟨by omega, by omega⟩ ⟨by omega, by omega⟩).mono ?_
    rw [Q.out]
    rintro e w1 ⟨rfl, hb1⟩
    go_wp2
    go_ret2
    exact ⟨by rw [QU.out]; first | rfl | (congr 2; omega) | simp, hb1⟩
theorem impl_priced_any (a b c : Int) (w : World) (ha : 0 ≤ a ∧ a ≤ 1000000000000) (hb : 0 ≤ b ∧ b ≤ 1000000000000000000) (hc : 1 ≤ c ∧ c ≤ 1000000000000000000) (hq : a * b / c ≤ 100000000000000000) :
    Calls Try.prog 102 #[.int .i64 a, .int .i64 b, .int .i64 c] w fun e w' => e = .returned (.int .i64 (upP a b c)) ∧ Below w.heap.size w w' := by
  go_enter Try.func102, Try.ntmps102
  go_wp2_with (first | (go_at_call 171; refine (impl_roundUp_any a b c _ ha hb hc hq).mono ?_; rintro e w1 ⟨rfl, hb1⟩))
  go_ret
  exact ⟨rfl, hb1⟩


def benT (kind m1 m2 d2 : Int) : Int := if kind = 0 then m1 else if kind = 1 then m1 - m2 else if kind = 2 then m1 - m2 + d2 else d2
def benB (kind n1 n2 : Int) : Int := if kind = 0 then n1 else n1 - n2
set_option maxHeartbeats 2000000 in
theorem impl_benefits_any (kind d1 n1 c1 m1 d2 n2 c2 m2 : Int) (w : World) (hn1 : 0 ≤ n1 ∧ n1 ≤ 200000000000000000) (hm1 : 0 ≤ m1 ∧ m1 ≤ 200000000000000000) (hn2 : 0 ≤ n2 ∧ n2 ≤ 200000000000000000) (hm2 : 0 ≤ m2 ∧ m2 ≤ 200000000000000000) (hd2 : 0 ≤ d2 ∧ d2 ≤ 200000000000000000) :
    Calls Try.prog 170 #[.int .i64 kind, .agg #[.int .i64 d1, .int .i64 n1, .int .i64 c1, .int .i64 m1], .agg #[.int .i64 d2, .int .i64 n2, .int .i64 c2, .int .i64 m2]] w fun e w' =>
      e = .returned (.tuple #[.int .i64 (benT kind m1 m2 d2), .int .i64 (benB kind n1 n2)]) ∧ Below w.heap.size w w' := by
  obtain ⟨a1, a2⟩ := hn1
  obtain ⟨a3, a4⟩ := hm1
  obtain ⟨a5, a6⟩ := hn2
  obtain ⟨a7, a8⟩ := hm2
  obtain ⟨a9, a10⟩ := hd2
  have hbw := boxes_below (w := w) (X := [.int .i64 d1, .int .i64 n1, .int .i64 c1, .int .i64 m1]) (Y := [.int .i64 d2, .int .i64 n2, .int .i64 c2, .int .i64 m2]) (tx := 168) (ty := 168)
  have HX := Lib.hid ((Blk.new w 168 #[.int .i64 d1, .int .i64 n1, .int .i64 c1, .int .i64 m1]).alloc (.cells #[.int .i64 d2, .int .i64 n2, .int .i64 c2, .int .i64 m2] 168))
  have HY := Lib.hid (Blk.new (w.alloc (.cells #[.int .i64 d1, .int .i64 n1, .int .i64 c1, .int .i64 m1] 168)) 168 #[.int .i64 d2, .int .i64 n2, .int .i64 c2, .int .i64 m2])
  rw [World.size_alloc] at HY
  obtain ⟨W, hW⟩ : ∃ W, ((w.alloc (.cells #[.int .i64 d1, .int .i64 n1, .int .i64 c1, .int .i64 m1] 168)).alloc (.cells #[.int .i64 d2, .int .i64 n2, .int .i64 c2, .int .i64 m2] 168)) = W := ⟨_, rfl⟩
  have hbW : Below w.heap.size w W := by rw [← hW]; exact hbw
  rw [hW] at HX HY
  have q1 := fun y : Past W => Past.cell (p := ⟨w.heap.size, 1, none⟩) (v := .int .i64 n1) (HX.out.cell 1) y
  have q3 := fun y : Past W => Past.cell (p := ⟨w.heap.size, 3, none⟩) (v := .int .i64 m1) (HX.out.cell 3) y
  have q4 := fun y : Past W => Past.cell (p := ⟨w.heap.size + 1, 0, none⟩) (v := .int .i64 d2) (HY.out.cell 0) y
  have q5 := fun y : Past W => Past.cell (p := ⟨w.heap.size + 1, 1, none⟩) (v := .int .i64 n2) (HY.out.cell 1) y
  have q7 := fun y : Past W => Past.cell (p := ⟨w.heap.size + 1, 3, none⟩) (v := .int .i64 m2) (HY.out.cell 3) y
  have HW := Lib.hid hW; clear hW hbw
  by_cases h0 : kind = 0
  · subst h0
    have Q := Lib.hid (show benT 0 m1 m2 d2 = m1 ∧ benB 0 n1 n2 = n1 by simp [benT, benB])
    go_enter Try.func170, Try.ntmps170
    go_wp2
    rw [HW.out]
    refine wp_region_past (by kernel_rfl) (by kernel_rfl) ?_
    repeat (go_big_quiet_step (fail))
    refine wpQuiet_nil ?_
    rintro _ ⟨y, rfl⟩
    go_wp2
    go_ret2
    exact ⟨by rw [Q.out.1, Q.out.2]; rfl, hbW.trans (y.2.mono hbW.size)⟩
  by_cases h1 : kind = 1
  · subst h1
    have Q := Lib.hid (show benT 1 m1 m2 d2 = m1 - m2 ∧ benB 1 n1 n2 = n1 - n2 by simp [benT, benB])
    go_enter Try.func170, Try.ntmps170
    go_wp2
    rw [HW.out]
    refine wp_region_past (by kernel_rfl) (by kernel_rfl) ?_
    repeat (go_big_quiet_step (fail))
    refine wpQuiet_nil ?_
    rintro _ ⟨y, rfl⟩
    go_wp2
    go_ret2
    exact ⟨by rw [Q.out.1, Q.out.2]; rfl, hbW.trans (y.2.mono hbW.size)⟩
  by_cases h2 : kind = 2
  · subst h2
    have Q := Lib.hid (show benT 2 m1 m2 d2 = m1 - m2 + d2 ∧ benB 2 n1 n2 = n1 - n2 by simp [benT, benB])
    go_enter Try.func170, Try.ntmps170
    go_wp2
    rw [HW.out]
    refine wp_region_past (by kernel_rfl) (by kernel_rfl) ?_
    repeat (go_big_quiet_step (fail))
    refine wpQuiet_nil ?_
    rintro _ ⟨y, rfl⟩
    go_wp2
    go_ret2
    exact ⟨by rw [Q.out.1, Q.out.2]; rfl, hbW.trans (y.2.mono hbW.size)⟩
  have Q := Lib.hid (show benT kind m1 m2 d2 = d2 ∧ benB kind n1 n2 = n1 - n2 by simp [benT, benB, h0, h1, h2])
  go_enter Try.func170, Try.ntmps170
  go_wp2
  rw [HW.out]
  refine wp_region_past (by kernel_rfl) (by kernel_rfl) ?_
  repeat (go_big_quiet_step (fail))
  refine wpQuiet_nil ?_
  rintro _ ⟨y, rfl⟩
  go_wp2
  go_ret2
  exact ⟨by rw [Q.out.1, Q.out.2]; rfl, hbW.trans (y.2.mono hbW.size)⟩

end Go.Proofs.Ythcnkcoplgdlkaa
