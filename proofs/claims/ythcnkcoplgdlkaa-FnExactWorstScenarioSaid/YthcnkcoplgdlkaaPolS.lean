/- Policies: whether they are valid, premiums, durations: the reference's contracts. -/
import Derived.Test.YthcnkcoplgdlkaaLife3
namespace Go.Proofs.Ythcnkcoplgdlkaa
open Go.RowKit Go.BigFrame

def fitsB (kind yrs : Int) : Bool := inR kind 0 3 && ((kind == 0) == (yrs == 0))
theorem fitsB_true {kind yrs : Int} : fitsB kind yrs = true ↔ (0 ≤ kind ∧ kind ≤ 3) ∧ (kind = 0 ↔ yrs = 0) := by
  simp only [fitsB, Bool.and_eq_true, inR_true, beq_iff_eq]
  constructor
  · rintro ⟨h1, h2⟩
    refine ⟨h1, ?_⟩
    have : ((kind == 0) = true ↔ (yrs == 0) = true) := by rw [h2]
    simpa using this
  · rintro ⟨h1, h2⟩
    refine ⟨h1, ?_⟩
    by_cases h : kind = 0
    · have := h2.1 h; simp [h, this]
    · have h3 : ¬ yrs = 0 := fun e => h (h2.2 e)
      have e1 : (kind == 0) = false := by simp [h]
      have e2 : (yrs == 0) = false := by simp [h3]
      rw [e1, e2]
theorem inR_bool (n lo hi : Int) (h : ¬ inR n lo hi = true) : inR n lo hi = false := by simpa using h

set_option maxHeartbeats 2000000 in
theorem spec_l07Code_any (first : Int) (A : Option Addr) (n cap : Nat) (xs : List Int) (rate kind age yrs : Int) (b : Bool) (w : World) (hT : LiesT w A n xs) (hcap : n ≤ cap) (hf : In64 first) :
    Calls Try.prog 177 #[.agg #[.int .i64 first, .slice A n cap], .int .i64 rate, .int .i64 kind, .int .i64 age, .int .i64 yrs, .bool b] w fun e w' => e = .returned (.int .i64 (code6 first xs rate age (b && fitsB kind yrs) yrs)) ∧ Below w.heap.size w w' := by
  have hbw : Below w.heap.size w (w.alloc (.cells #[.int .i64 first, .slice A n cap] 30)) := (Below.refl _ w).alloc (Nat.le_refl _) _
  have HT := Lib.hid (hT.past hbw); clear hT
  cases h1 : inR kind 0 3
  · have e : fitsB kind yrs = false := by simp [fitsB, h1]
    rw [e]
    cases b
    all_goals
      go_enter Try.func177, Try.ntmps177
      go_wp2_with (first | (go_at_call 122; refine (spec_l01In_any _ _ _ _).mono ?_; rintro e w' ⟨rfl, rfl⟩))
      refine (spec_l06Code_any first A n cap xs rate age _ yrs _ HT.out hcap hf).mono ?_
      rintro e w1 ⟨rfl, hb1⟩
      go_wp2
      go_ret
      exact ⟨by simp, hbw.trans (hb1.mono (by simp))⟩
  · have e : fitsB kind yrs = ((kind == 0) == (yrs == 0)) := by simp [fitsB, h1]
    rw [e]
    cases b
    · go_enter Try.func177, Try.ntmps177
      go_wp2_with (first | (go_at_call 122; refine (spec_l01In_any _ _ _ _).mono ?_; rintro e w' ⟨rfl, rfl⟩))
      all_goals (refine (spec_l06Code_any first A n cap xs rate age _ yrs _ HT.out hcap hf).mono ?_; rintro e w1 ⟨rfl, hb1⟩; go_wp2; go_ret; exact ⟨by simp, hbw.trans (hb1.mono (by simp))⟩)
    · obtain ⟨q, hq⟩ : ∃ q, ((kind == 0) == (yrs == 0)) = q := ⟨_, rfl⟩
      rw [hq]
      go_enter Try.func177, Try.ntmps177
      go_wp2_with (first | (go_at_call 122; refine (spec_l01In_any _ _ _ _).mono ?_; rintro e w' ⟨rfl, rfl⟩))
      refine (spec_l06Code_any first A n cap xs rate age _ yrs _ HT.out hcap hf).mono ?_
      rintro e w1 ⟨rfl, hb1⟩
      go_wp2
      go_ret
      exact ⟨by simp, hbw.trans (hb1.mono (by simp))⟩

/-- a basis lies in memory -/
structure BasT (w : World) (A : Option Addr) (n cap : Nat) (b : Bas) : Prop where
  lives : LiesT w A n b.lives
  cap : n ≤ cap
  first : In64 b.first
  rate : In64 b.rate
theorem BasT.past {w w' : World} {A : Option Addr} {n cap : Nat} {b : Bas} (h : BasT w A n cap b) (hb : Below w.heap.size w w') : BasT w' A n cap b := ⟨h.lives.past hb, h.cap, h.first, h.rate⟩
theorem BasT.at_past {w : World} {A : Option Addr} {n cap : Nat} {b : Bas} (h : BasT w A n cap b) (x : Past w) : BasT x.1 A n cap b := h.past x.2
abbrev Bas.row (b : Bas) (A : Option Addr) (n cap : Nat) : List Value := [.int .i64 b.first, .slice A n cap, .int .i64 b.rate]

theorem spec_IsBasis_any (b : Bas) (A : Option Addr) (n cap : Nat) (w : World) (hB : BasT w A n cap b) :
    Calls Try.prog 79 #[.agg #[.int .i64 b.first, .slice A n cap, .int .i64 b.rate]] w fun e w' => e = .returned (.bool (basisB b)) ∧ Below w.heap.size w w' := by
  have hbw : Below w.heap.size w (w.alloc (.cells #[.int .i64 b.first, .slice A n cap, .int .i64 b.rate] 32)) := (Below.refl _ w).alloc (Nat.le_refl _) _
  have HB := Lib.hid (Blk.new w 32 #[.int .i64 b.first, .slice A n cap, .int .i64 b.rate])
  have HBT := Lib.hid (hB.past hbw); clear hB
  cases h1 : tableB b.first b.lives
  · have Q := Lib.hid (show basisB b = false by simp [basisB, h1])
    go_enter Try.func79, Try.ntmps79
    go_wp2_with fail
    refine (spec_IsLifeTable_any b.first A n cap b.lives _ HBT.out.lives HBT.out.cap HBT.out.first).mono ?_
    rw [h1]
    rintro e w1 ⟨rfl, hb1⟩
    go_wp2
    go_ret
    exact ⟨by rw [Q.out]; rfl, hbw.trans (hb1.mono (by simp))⟩
  · have Q := Lib.hid (show basisB b = inR b.rate 0 200 by simp [basisB, h1])
    go_enter Try.func79, Try.ntmps79
    go_wp2_with fail
    refine (spec_IsLifeTable_any b.first A n cap b.lives _ HBT.out.lives HBT.out.cap HBT.out.first).mono ?_
    rw [h1]
    rintro e w1 ⟨rfl, hb1⟩
    have c2 : w1.cell? ⟨w.heap.size, 2, none⟩ = some (.int .i64 b.rate) := (HB.out.below' hb1).cell 2
    go_wp2_with (first | (go_at_call 81; refine (spec_l04Rate_any _ _).mono ?_; rintro e w' ⟨rfl, rfl⟩))
    go_ret
    exact ⟨by rw [Q.out]; rfl, hbw.trans (hb1.mono (by simp))⟩

def polCode (b : Bas) (p : Policy) : Int := code6 b.first b.lives b.rate p.age (inR p.sum 1 100000000 && fitsB p.kind p.years) p.years
theorem polCode_of {b : Bas} {p : Policy} (h : polB b p = true) : polCode b p = 0 := by
  have P := pol_ok h
  have h1 : basisB b = true := by simp only [polB, Bool.and_eq_true] at h; exact h.1
  simp only [basisB, Bool.and_eq_true] at h1
  have h2 : code5 b.first b.lives b.rate p.age = 0 := by unfold code5; rw [if_pos h1.1, if_pos ⟨h1.2, inR_mk ⟨P.age0, P.age1⟩⟩]
  have h3 : fitsB p.kind p.years = true := fitsB_true.2 ⟨⟨P.kind0, P.kind1⟩, P.zero.symm⟩
  have h4 : ¬ dC b.lives b.rate (p.age - b.first).toNat = 0 := by have := d_age P; unfold Bas.d Bas.ix at this; omega
  unfold polCode code6
  rw [if_pos h2, if_pos ⟨by rw [h3, inR_mk ⟨P.sum0, P.sum1⟩]; rfl, inR_mk ⟨P.yrs0, P.yrs1⟩, P.end1⟩, if_neg h4]
theorem pol_of {b : Bas} {p : Policy} (h1 : basisB b = true) (h2 : inR p.load 0 1000 = true) (h3 : polCode b p = 0) (h4 : ∀ i : Nat, (i : Int) < p.years → b.d (p.age + i) ≠ 0) : polB b p = true := by
  unfold polCode at h3
  have h5 : code5 b.first b.lives b.rate p.age = 0 := by
    unfold code6 at h3
    by_cases e : code5 b.first b.lives b.rate p.age = 0
    · exact e
    · rw [if_neg e] at h3; exact absurd h3 e
  obtain ⟨_, ⟨r1, r2⟩, a1, a2⟩ := code5_ok h5
  unfold code6 at h3
  rw [if_pos h5] at h3
  by_cases e : ((inR p.sum 1 100000000 && fitsB p.kind p.years) = true ∧ inR p.years 0 120 = true ∧ p.age + p.years ≤ 150)
  · rw [if_pos e] at h3
    by_cases e2 : dC b.lives b.rate (p.age - b.first).toNat = 0
    · rw [if_pos e2] at h3; omega
    · obtain ⟨e3, e4, e5⟩ := e
      simp only [Bool.and_eq_true] at e3
      obtain ⟨k1, k2⟩ := fitsB_true.1 e3.2
      have e6 : assurB b p.kind p.age p.years p.sum = true := by
        simp only [assurB, Bool.and_eq_true, decide_eq_true_eq, beq_iff_eq, decide_eq_decide]
        exact ⟨inR_mk k1, inR_mk ⟨r1, r2⟩, inR_mk ⟨a1, a2⟩, e3.1, e4, e5, k2.symm⟩
      have e7 : bandB b p.age p.years = true := by
        simp only [bandB, List.all_eq_true, List.mem_range, decide_eq_true_eq]
        intro i hi
        by_cases hi0 : i = 0
        · subst hi0
          simp only [Int.natCast_zero, Int.add_zero]
          exact e2
        · exact h4 i (by omega)
      simp only [polB, h1, h2, e6, e7, Bool.and_self]
  · rw [if_neg e] at h3; omega
theorem polCode_ok {b : Bas} {p : Policy} (h3 : polCode b p = 0) : BasOk b ∧ b.first ≤ p.age ∧ p.age ≤ 150 ∧ 0 ≤ p.years ∧ p.years ≤ 120 := by
  unfold polCode at h3
  have h5 : code5 b.first b.lives b.rate p.age = 0 := by
    unfold code6 at h3
    by_cases e : code5 b.first b.lives b.rate p.age = 0
    · exact e
    · rw [if_neg e] at h3; exact absurd h3 e
  obtain ⟨T, ⟨r1, r2⟩, a1, a2⟩ := code5_ok h5
  unfold code6 at h3
  rw [if_pos h5] at h3
  by_cases e : ((inR p.sum 1 100000000 && fitsB p.kind p.years) = true ∧ inR p.years 0 120 = true ∧ p.age + p.years ≤ 150)
  · have := inR_true.1 e.2.1
    exact ⟨⟨T, r1, r2⟩, a1, a2, this.1, this.2⟩
  · rw [if_neg e] at h3; omega

theorem boxes_below {w : World} {X Y : List Value} {tx ty : TypeId} : Below w.heap.size w ((w.alloc (.cells X.toArray tx)).alloc (.cells Y.toArray ty)) := ((Below.refl _ w).alloc (Nat.le_refl _) _).alloc (by simp) _

set_option maxHeartbeats 4000000 in
theorem spec_IsPolicy_any (b : Bas) (A : Option Addr) (n cap : Nat) (p : Policy) (w : World) (hB : BasT w A n cap b) (_hp : p.fits) :
    Calls Try.prog 106 #[.agg #[.int .i64 b.first, .slice A n cap, .int .i64 b.rate], .agg p.row.toArray] w fun e w' => e = .returned (.bool (polB b p)) ∧ Below w.heap.size w w' := by
  have hbw := boxes_below (w := w) (X := b.row A n cap) (Y := p.row) (tx := 32) (ty := 44)
  have HB := Lib.hid ((Blk.new w 32 (b.row A n cap).toArray).alloc (.cells p.row.toArray 44))
  have HP := Lib.hid (Blk.new (w.alloc (.cells (b.row A n cap).toArray 32)) 44 p.row.toArray)
  rw [World.size_alloc] at HP
  unfold Bas.row Policy.row at *
  have HBT := Lib.hid (hB.past hbw); clear hB
  cases h1 : basisB b
  · have Q := Lib.hid (show polB b p = false by simp [polB, h1])
    go_enter Try.func106, Try.ntmps106
    go_wp2_with fail
    refine (spec_IsBasis_any b A n cap _ HBT.out).mono ?_
    rw [h1]
    rintro e w1 ⟨rfl, hb1⟩
    go_wp2
    go_ret
    exact ⟨by rw [Q.out]; rfl, hbw.trans (hb1.mono hbw.size)⟩
  cases h2 : inR p.load 0 1000
  · have Q := Lib.hid (show polB b p = false by simp [polB, h1, h2])
    go_enter Try.func106, Try.ntmps106
    go_wp2_with fail
    refine (spec_IsBasis_any b A n cap _ HBT.out).mono ?_
    rw [h1]
    rintro e w1 ⟨rfl, hb1⟩
    have c4 : w1.cell? ⟨w.heap.size + 1, 4, none⟩ = some (.int .i64 p.load) := (HP.out.below' hb1).cell 4
    go_wp2_with (first | (go_at_call 122; refine (spec_l01In_any _ _ _ _).mono ?_; rintro e w' ⟨rfl, rfl⟩))
    go_ret
    exact ⟨by rw [Q.out]; rfl, hbw.trans (hb1.mono hbw.size)⟩
  have H2 := Lib.hid h2
  go_enter Try.func106, Try.ntmps106
  go_wp2_with fail
  refine (spec_IsBasis_any b A n cap _ HBT.out).mono ?_
  rw [h1]
  rintro e w1 ⟨rfl, hb1⟩
  have HB1 := Lib.hid (HB.out.below' hb1)
  have HP1 := Lib.hid (HP.out.below' hb1)
  have c4 : w1.cell? ⟨w.heap.size + 1, 4, none⟩ = some (.int .i64 p.load) := HP1.out.cell 4
  have HBT1 := Lib.hid (HBT.out.past hb1)
  have hbw1 := hbw.trans (hb1.mono hbw.size)
  have hc1 := Lib.hid (Blk.agg_past (cs := [.int .i64 b.first, .slice A n cap, .int .i64 b.rate]) HB1.out 0 [.int .i64 b.first, .slice A n cap] rfl)
  have d2 := fun y : Past w1 => Past.cell (p := ⟨w.heap.size, 2, none⟩) (v := .int .i64 b.rate) (HB1.out.cell 2) y
  have e0 := fun y : Past w1 => Past.cell (p := ⟨w.heap.size + 1, 0, none⟩) (v := .int .i64 p.kind) (HP1.out.cell 0) y
  have e1 := fun y : Past w1 => Past.cell (p := ⟨w.heap.size + 1, 1, none⟩) (v := .int .i64 p.age) (HP1.out.cell 1) y
  have e2 := fun y : Past w1 => Past.cell (p := ⟨w.heap.size + 1, 2, none⟩) (v := .int .i64 p.years) (HP1.out.cell 2) y
  have e3 := fun y : Past w1 => Past.cell (p := ⟨w.heap.size + 1, 3, none⟩) (v := .int .i64 p.sum) (HP1.out.cell 3) y
  have QC := Lib.hid (show code6 b.first b.lives b.rate p.age (inR p.sum 1 100000000 && fitsB p.kind p.years) p.years = polCode b p from rfl)
  by_cases h3 : polCode b p = 0
  rotate_left
  · have Q := Lib.hid (show polB b p = false by cases e : polB b p; rfl; exact absurd (polCode_of e) h3)
    have h3b : (polCode b p == 0) = false := by simp [h3]
    have h3c : (polCode b p != 0) = true := by simp [h3]
    go_wp2_with (first | (go_at_call 122; refine (spec_l01In_any _ _ _ _).mono ?_; rintro e w' ⟨rfl, rfl⟩))
    refine wp_region_past (by kernel_rfl) (by kernel_rfl) ?_
    repeat (first | (go_big_quiet_want; (first | (refine quiet_load_agg 30 _ rfl ⟨w.heap.size, 0, none⟩ rfl [.int .i64 b.first, .slice A n cap] hc1.out _ Try.underlying30 rfl Tab.size ?_)); go_simp; go_big_quiet_on) | go_big_quiet_step ((first | (go_at_call 140; exact past_same (spec_l07Sum_any p.sum _)) | (go_at_call 177; exact past_call ((spec_l07Code_any b.first A n cap b.lives b.rate p.kind p.age p.years _ _ (HBT1.out.lives.at_past _) HBT1.out.cap HBT1.out.first).mono (by rw [QC.out]; exact fun _ _ h => h))))))
    refine wpQuiet_nil ?_
    rintro _ ⟨y, rfl⟩
    go_wp2
    go_ret
    exact ⟨by rw [Q.out]; rfl, hbw1.trans (y.2.mono hbw1.size)⟩
  obtain ⟨OK, a1, a2, y1, y2⟩ := polCode_ok h3
  have HOK := Lib.hid OK; clear OK
  have h3' := Lib.hid h3
  have T0 := HOK.out.tab.first0
  go_wp2_with (first | (go_at_call 122; refine (spec_l01In_any _ _ _ _).mono ?_; rintro e w' ⟨rfl, rfl⟩))
  refine wp_region_past (by kernel_rfl) (by kernel_rfl) ?_
  repeat (first | (go_big_quiet_want; (first | (refine quiet_load_agg 30 _ rfl ⟨w.heap.size, 0, none⟩ rfl [.int .i64 b.first, .slice A n cap] hc1.out _ Try.underlying30 rfl Tab.size ?_)); go_simp; go_big_quiet_on) | go_big_quiet_step ((first | (go_at_call 140; exact past_same (spec_l07Sum_any p.sum _)) | (go_at_call 177; exact past_call ((spec_l07Code_any b.first A n cap b.lives b.rate p.kind p.age p.years _ _ (HBT1.out.lives.at_past _) HBT1.out.cap HBT1.out.first).mono (by rw [QC.out, h3'.out]; exact fun _ _ h => h))))))
  refine wpQuiet_nil ?_
  rintro _ ⟨y, rfl⟩
  have HB2 := Lib.hid (HB1.out.below' y.2)
  have HP2 := Lib.hid (HP1.out.below' y.2)
  have hbw2 := hbw1.trans (y.2.mono hbw1.size)
  have HBT2 := Lib.hid (HBT1.out.past y.2)
  obtain ⟨wy, hwy⟩ : ∃ wy, wy = y.1 := ⟨y.1, rfl⟩
  rw [← hwy] at HB2 HP2 hbw2 HBT2 ⊢
  clear hwy e0 e1 e2 e3 d2 hc1 c4
  go_wp2
  go_loopw [5] (fun i wr => ∃ k : Nat, (k : Int) ≤ p.years ∧ i = .int .i64 k ∧ Hid (∀ j : Nat, j < k → b.d (p.age + j) ≠ 0) ∧ Below wy.heap.size wy wr) (fun i _ => 121 - (intOf i).toNat)
  case atStart => exact ⟨0, by omega, rfl, Lib.hid (fun j h => by omega), Below.refl _ _⟩
  case round =>
    obtain ⟨k, hk, rfl, hall, hb⟩ := hrel
    have HB3 := Lib.hid (HB2.out.below' hb)
    have HP3 := Lib.hid (HP2.out.below' hb)
    have f1 : wr.cell? ⟨w.heap.size + 1, 1, none⟩ = some (.int .i64 p.age) := HP3.out.cell 1
    have f2 : wr.cell? ⟨w.heap.size + 1, 2, none⟩ = some (.int .i64 p.years) := HP3.out.cell 2
    have f3 : wr.cell? ⟨w.heap.size, 2, none⟩ = some (.int .i64 b.rate) := HB3.out.cell 2
    have hc3 := Lib.hid (Blk.agg (cs := [.int .i64 b.first, .slice A n cap, .int .i64 b.rate]) HB3.out 0 [.int .i64 b.first, .slice A n cap] rfl)
    by_cases hlt : (k : Int) < p.years
    · have HBT3 := Lib.hid (HBT2.out.past hb)
      go_wp2_with (refine wpList_load_agg rfl 30 _ rfl ⟨w.heap.size, 0, none⟩ rfl [.int .i64 b.first, .slice A n cap] hc3.out _ Try.underlying30 rfl Tab.size ?_)
      refine (spec_l05D_any b.first A n cap b.lives b.rate (p.age + (k : Int)) _ HBT3.out.lives HOK.out.tab ⟨HOK.out.rate0, HOK.out.rate1⟩ ⟨by omega, by omega⟩).mono ?_
      rw [show dC b.lives b.rate (p.age + (k : Int) - b.first).toNat = b.d (p.age + (k : Int)) from rfl]
      by_cases hd : b.d (p.age + (k : Int)) = 0
      · have Q := Lib.hid (show polB b p = false by
          cases e : polB b p
          · rfl
          · exact absurd hd ((pol_ok e).band k (by omega)))
        have HD := Lib.hid hd; clear hd
        rw [HD.out]
        rintro e w3 ⟨rfl, hb3⟩
        go_wp2
        go_ret
        exact ⟨by rw [Q.out]; rfl, hbw2.trans ((below_step hb hb3).mono hbw2.size)⟩
      · rintro e w3 ⟨rfl, hb3⟩
        go_wp2
        go_roundw
        case rel => exact ⟨k + 1, by omega, by go_num, Lib.hid (fun j h => by
          by_cases e : j = k
          · subst e; exact hd
          · exact hall.out j (by omega)), below_step hb hb3⟩
        case measure => simp [intOf]; omega
    · have Q := Lib.hid (show polB b p = true from pol_of h1 H2.out h3'.out fun i hi => hall.out i (by omega))
      go_wp2
      go_ret
      exact ⟨by rw [Q.out]; rfl, hbw2.trans (hb.mono hbw2.size)⟩
end Go.Proofs.Ythcnkcoplgdlkaa
