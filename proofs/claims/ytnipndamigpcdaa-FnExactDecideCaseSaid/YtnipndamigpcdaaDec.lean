/- Which rule decides a case: the program's and the reference's contracts over one plain function each. -/
import Derived.Test.YtnipndamigpcdaaStat
import Derived.Test.YtnipndamigpcdaaBase2
namespace Go.Proofs.Ytnipndamigpcdaa
open Go.RowKit Go.BigFrame

def bitB (m k : Int) : Bool := (m / 2 ^ k.toNat).tmod 2 == 1
def appliesB (r : Rule) (c : Case) : Bool := inR c.age r.ageFrom r.ageTo && (inR c.years r.yearsFrom r.yearsTo && bitB r.kinds c.kind)
theorem kinds_of {r : Rule} (h : ruleB r = true) : 1 ≤ r.kinds ∧ r.kinds ≤ 15 := by
  simp [ruleB, inR] at h; omega
theorem bit_and {m k : Int} (hm : 1 ≤ m ∧ m ≤ 15) (hk : 0 ≤ k ∧ k ≤ 3) : (bits .and .i64 (m / 2 ^ k.toNat) 1 == 1) = bitB m k := by
  obtain ⟨m', rfl⟩ := Int.eq_ofNat_of_zero_le (show 0 ≤ m by omega)
  obtain ⟨k', rfl⟩ := Int.eq_ofNat_of_zero_le (show 0 ≤ k by omega)
  have key : ∀ a : Nat, a < 16 → ∀ b : Nat, b < 4 → (bits .and .i64 ((a : Int) / 2 ^ (b : Int).toNat) 1 == 1) = bitB a b := by decide +kernel
  exact key m' (by omega) k' (by omega)
def decidesI (xs : List Rule) (c : Case) : Int := match xs.findIdx? (appliesB · c) with
  | some i => i
  | none => -1
def caseB (c : Case) : Bool := inR c.age 0 150 && (inR c.years 0 99 && inR c.kind 0 3)
def decideP (xs : List Rule) (c : Case) : Int × Int × Int :=
  if statutesB xs then (if caseB c then (match xs.findIdx? (appliesB · c) with
    | some i => ((i : Int), ((xs[i]?).map (·.outcome)).getD 0, 0)
    | none => (0, 0, 4)) else (0, 0, 2)) else (0, 0, 1)
theorem statutes_rule {xs : List Rule} (h : statutesB xs = true) : ∀ x ∈ xs, ruleB x = true := by
  simp [statutesB] at h; exact h.1
theorem statutes_len {xs : List Rule} (h : statutesB xs = true) : 1 ≤ xs.length ∧ xs.length ≤ 20 := by
  simp [statutesB, inR] at h; omega

set_option maxHeartbeats 1000000 in
theorem impl_applies_any (r : Rule) (c : Case) (hr : ruleB r = true) (hc : 0 ≤ c.kind ∧ c.kind ≤ 3) (w : World) :
    Calls Try.prog 44 #[.agg r.row.toArray, .agg c.row.toArray] w fun e w' => e = .returned (.bool (appliesB r c)) ∧ Below w.heap.size w w' := by
  have hk := bit_and (kinds_of hr) hc
  unfold Rule.row Case.row
  go_enter Try.func44, Try.ntmps44
  go_wp2_with (first | (go_at_call 28; refine (impl_inRange_any _ _ _ _).mono ?_; rintro e w' ⟨rfl, rfl⟩))
  all_goals (go_ret; exact ⟨by simp_all [appliesB], ((Below.refl _ _).alloc (Nat.le_refl _) _).alloc (by simp) _⟩)
set_option maxHeartbeats 1000000 in
theorem spec_l23Applies_any (r : Rule) (c : Case) (_hr : ruleB r = true) (hc : 0 ≤ c.kind ∧ c.kind ≤ 3) (w : World) :
    Calls Try.prog 43 #[.agg r.row.toArray, .agg c.row.toArray] w fun e w' => e = .returned (.bool (appliesB r c)) ∧ Below w.heap.size w w' := by
  unfold Rule.row Case.row
  go_enter Try.func43, Try.ntmps43
  go_wp2_with (first | (go_at_call 25; refine (spec_l01In_any _ _ _ _).mono ?_; rintro e w' ⟨rfl, rfl⟩))
  all_goals (go_ret; exact ⟨by simp_all [appliesB, bitB], ((Below.refl _ _).alloc (Nat.le_refl _) _).alloc (by simp) _⟩)


set_option maxHeartbeats 2000000 in
theorem impl_decides_any (A : Option Addr) (n cap : Nat) (xs : List Rule) (c : Case) (w : World) (hl : xs.length = n) (hn : n ≤ 20) (hX : Rd w w.heap.size A 6 (ruleRows xs)) (hv : ∀ x ∈ xs, ruleB x = true) (hc : 0 ≤ c.kind ∧ c.kind ≤ 3) :
    Calls Try.prog 38 #[.slice A n cap, .agg c.row.toArray] w fun e w' => e = .returned (.int .i64 (decidesI xs c)) ∧ Below w.heap.size w w' := by
  have HX := Lib.hid hX; clear hX
  have HL := Lib.hid hl; clear hl
  have HV := Lib.hid hv; clear hv
  go_enter Try.func38, Try.ntmps38
  go_wp2
  go_loopw [9] (fun i wr => ∃ k : Nat, k ≤ n ∧ i = .int .i64 k ∧ (xs.take k).any (appliesB · c) = false ∧ Below (w.heap.size + 1) (w.alloc (.cells c.row.toArray 46)) wr) (fun i _ => n - (intOf i).toNat)
  case atStart => exact ⟨0, by omega, rfl, rfl, Below.refl _ _⟩
  case round =>
    obtain ⟨k, hk, rfl, hall, hb⟩ := hrel
    have HA := Lib.hid hall; clear hall
    have hb0 : Below w.heap.size w wr := ((Below.refl _ w).alloc (Nat.le_refl _) _).trans (hb.mono (by omega))
    by_cases hlt : k < n
    rotate_left
    · have hkn : k = n := by omega
      subst hkn
      go_wp2
      go_ret
      exact ⟨by rw [decidesI, find_end HL.out HA.out]; rfl, hb0⟩
    obtain ⟨x, hx⟩ := get_of_lt (xs := xs) (k := k) (by rw [HL.out]; exact hlt)
    obtain ⟨ad, rfl, had, _, hcx⟩ := (HX.out.below hb0).at' (ruleRows_get hx)
    have Hc := Lib.hid hcx; clear hcx
    have Hx := Lib.hid hx; clear hx
    have hsz := hb.size
    simp at hsz
    have Hcc := Lib.hid (box_cells hb)
    have hrx := HV.out x (List.mem_of_getElem? Hx.out)
    have Hcd := Lib.hid (fun o => cells_alloc Hcc.out (p := ⟨w.heap.size, 0, none⟩) (by simp; omega) o)
    go_wp2_with (first | (refine wpList_load_agg rfl 58 _ rfl (ad.add (k * 6)) rfl [.int .i64 x.ageFrom, .int .i64 x.ageTo, .int .i64 x.yearsFrom, .int .i64 x.yearsTo, .int .i64 x.kinds, .int .i64 x.outcome] Hc.out _ Try.underlying58 rfl Rule.size ?_) | (refine wpList_load_agg rfl 46 _ rfl ⟨w.heap.size, 0, none⟩ rfl c.row (Hcd.out _) _ Try.underlying46 rfl Case.size ?_))
    refine (impl_applies_any x c hrx hc _).mono ?_
    rintro e w1 ⟨rfl, hb1⟩
    have hb2 : Below (w.heap.size + 1) (w.alloc (.cells c.row.toArray 46)) w1 := (hb.alloc (by omega) _).trans (hb1.mono (by simp; omega))
    have hb3 : Below w.heap.size w w1 := ((Below.refl _ w).alloc (Nat.le_refl _) _).trans (hb2.mono (by omega))
    by_cases hp : appliesB x c = true
    · go_wp2
      go_ret
      exact ⟨by rw [decidesI, find_stop HA.out Hx.out hp]; rfl, hb3⟩
    · have hp' : appliesB x c = false := by simpa using hp
      clear hp
      go_wp2
      go_roundw
      case rel => exact ⟨k + 1, by omega, by go_num, any_succ HA.out Hx.out hp', hb2⟩
      case measure => simp [intOf]; omega

set_option maxHeartbeats 2000000 in
theorem spec_l23First_any (A : Option Addr) (n cap : Nat) (xs : List Rule) (c : Case) (w : World) (hl : xs.length = n) (hn : n ≤ 20) (hX : Rd w w.heap.size A 6 (ruleRows xs)) (hv : ∀ x ∈ xs, ruleB x = true) (hc : 0 ≤ c.kind ∧ c.kind ≤ 3) :
    Calls Try.prog 37 #[.slice A n cap, .agg c.row.toArray] w fun e w' => e = .returned (.int .i64 (decidesI xs c)) ∧ Below w.heap.size w w' := by
  have HX := Lib.hid hX; clear hX
  have HL := Lib.hid hl; clear hl
  have HV := Lib.hid hv; clear hv
  go_enter Try.func37, Try.ntmps37
  go_wp2
  go_loopw [5] (fun i wr => ∃ k : Nat, k ≤ n ∧ i = .int .i64 k ∧ (xs.take k).any (appliesB · c) = false ∧ Below (w.heap.size + 1) (w.alloc (.cells c.row.toArray 46)) wr) (fun i _ => n - (intOf i).toNat)
  case atStart => exact ⟨0, by omega, rfl, rfl, Below.refl _ _⟩
  case round =>
    obtain ⟨k, hk, rfl, hall, hb⟩ := hrel
    have HA := Lib.hid hall; clear hall
    have hb0 : Below w.heap.size w wr := ((Below.refl _ w).alloc (Nat.le_refl _) _).trans (hb.mono (by omega))
    by_cases hlt : k < n
    rotate_left
    · have hkn : k = n := by omega
      subst hkn
      go_wp2
      go_ret
      exact ⟨by rw [decidesI, find_end HL.out HA.out]; rfl, hb0⟩
    obtain ⟨x, hx⟩ := get_of_lt (xs := xs) (k := k) (by rw [HL.out]; exact hlt)
    obtain ⟨ad, rfl, had, _, hcx⟩ := (HX.out.below hb0).at' (ruleRows_get hx)
    have Hc := Lib.hid hcx; clear hcx
    have Hx := Lib.hid hx; clear hx
    have hsz := hb.size
    simp at hsz
    have Hcc := Lib.hid (box_cells hb)
    have hrx := HV.out x (List.mem_of_getElem? Hx.out)
    by_cases hp : appliesB x c = true
    · go_wp2
      refine wp_region_past (by kernel_rfl) (by kernel_rfl) ?_
      repeat (first | (go_big_quiet_want; (first | (refine quiet_load_agg 58 _ rfl (ad.add (k * 6)) rfl x.row (Past.cells' Hc.out) _ Try.underlying58 rfl Rule.size ?_) | (refine quiet_load_agg 46 _ rfl ⟨w.heap.size, 0, none⟩ rfl c.row (Past.cells' Hcc.out) _ Try.underlying46 rfl Case.size ?_)); go_simp; go_big_quiet_on) | go_big_quiet_step ((go_at_call 43; exact past_call ((spec_l23Applies_any x c hrx hc _).mono (by rw [hp]; exact fun _ _ h => h)))))
      refine wpQuiet_nil ?_
      rintro _ ⟨y, rfl⟩
      have hb2 : Below (w.heap.size + 1) (w.alloc (.cells c.row.toArray 46)) y.1 := hb.trans (y.2.mono (by omega))
      have hb3 : Below w.heap.size w y.1 := ((Below.refl _ w).alloc (Nat.le_refl _) _).trans (hb2.mono (by omega))
      go_wp2
      go_ret
      exact ⟨by rw [decidesI, find_stop HA.out Hx.out hp]; rfl, hb3⟩
    · have hp' : appliesB x c = false := by simpa using hp
      clear hp
      go_wp2
      refine wp_region_past (by kernel_rfl) (by kernel_rfl) ?_
      repeat (first | (go_big_quiet_want; (first | (refine quiet_load_agg 58 _ rfl (ad.add (k * 6)) rfl x.row (Past.cells' Hc.out) _ Try.underlying58 rfl Rule.size ?_) | (refine quiet_load_agg 46 _ rfl ⟨w.heap.size, 0, none⟩ rfl c.row (Past.cells' Hcc.out) _ Try.underlying46 rfl Case.size ?_)); go_simp; go_big_quiet_on) | go_big_quiet_step ((go_at_call 43; exact past_call ((spec_l23Applies_any x c hrx hc _).mono (by rw [hp']; exact fun _ _ h => h)))))
      refine wpQuiet_nil ?_
      rintro _ ⟨y, rfl⟩
      have hb2 : Below (w.heap.size + 1) (w.alloc (.cells c.row.toArray 46)) y.1 := hb.trans (y.2.mono (by omega))
      have hb3 : Below w.heap.size w y.1 := ((Below.refl _ w).alloc (Nat.le_refl _) _).trans (hb2.mono (by omega))
      go_wp2
      go_roundw
      case rel => exact ⟨k + 1, by omega, by go_num, any_succ HA.out Hx.out hp', hb2⟩
      case measure => simp [intOf]; omega
theorem case_kind {c : Case} (h : inR c.kind 0 3 = true) : 0 ≤ c.kind ∧ c.kind ≤ 3 := inR_true.1 h

set_option maxHeartbeats 2000000 in
theorem impl_DecideCase_any (A : Option Addr) (n cap : Nat) (xs : List Rule) (c : Case) (w : World) (hl : xs.length = n) (hn : n ≤ 1048576) (hX : Rd w w.heap.size A 6 (ruleRows xs)) (hf : ∀ x ∈ xs, x.fits) (_hc : c.fits) :
    Calls Try.prog 20 #[.slice A n cap, .agg c.row.toArray] w fun e w' => e = .returned (.tuple #[.int .i64 (decideP xs c).1, .int .i64 (decideP xs c).2.1, .int .i64 (decideP xs c).2.2]) ∧ Below w.heap.size w w' := by
  have hX1 := (hX.alloc (Nat.le_refl _) (.cells c.row.toArray 46)).more (show w.heap.size ≤ (w.alloc (.cells c.row.toArray 46)).heap.size by simp)
  have HX := Lib.hid hX1; clear hX1 hX
  have HF := Lib.hid hf; clear hf
  have HL := Lib.hid hl; clear hl
  by_cases hg : statutesB xs = true
  rotate_left
  · have e : decideP xs c = (0, 0, 1) := by unfold decideP; rw [if_neg hg]
    rw [e]
    have hg' : statutesB xs = false := by simpa using hg
    clear hg e
    go_enter Try.func20, Try.ntmps20
    go_wp2_with (first | (go_at_call 16; refine (impl_AreStatutes_any A n cap xs _ HL.out hn HX.out HF.out).mono ?_; rintro e w1 ⟨rfl, hb1⟩))
    go_ret3
    exact ⟨rfl, ((Below.refl _ w).alloc (Nat.le_refl _) _).trans (hb1.mono (by simp))⟩
  have HG := Lib.hid hg
  go_enter Try.func20, Try.ntmps20
  go_wp2_with fail
  refine (impl_AreStatutes_any A n cap xs _ HL.out hn HX.out HF.out).mono ?_
  rintro e w1 ⟨rfl, hb1⟩
  have hb2 : Below (w.heap.size + 1) (w.alloc (.cells c.row.toArray 46)) w1 := hb1.mono (by simp)
  have hb3 : Below w.heap.size w w1 := ((Below.refl _ w).alloc (Nat.le_refl _) _).trans (hb2.mono (by omega))
  have hsz := hb2.size
  simp at hsz
  have Hcc := Lib.hid (box_cells hb2)
  obtain ⟨c0, c1, c2⟩ := Case.cells (box_cells hb2)
  simp only [Nat.zero_add] at c0 c1 c2
  have HX2 := Lib.hid (HX.out.past hb1)
  by_cases h0 : inR c.age 0 150 = true
  rotate_left
  · have e : decideP xs c = (0, 0, 2) := by unfold decideP; rw [if_pos HG.out, if_neg (by simp [caseB, h0])]
    have E := Lib.hid e
    have h0' : inR c.age 0 150 = false := by simpa using h0
    clear h0 e
    go_wp2_with (first | (go_at_call 28; refine (impl_inRange_any _ _ _ _).mono ?_; rintro e w' ⟨rfl, rfl⟩))
    go_ret3
    exact ⟨by rw [E.out]; rfl, hb3⟩
  by_cases h1 : inR c.years 0 99 = true
  rotate_left
  · have e : decideP xs c = (0, 0, 2) := by unfold decideP; rw [if_pos HG.out, if_neg (by simp [caseB, h1])]
    have E := Lib.hid e
    have h1' : inR c.years 0 99 = false := by simpa using h1
    clear h1 e
    go_wp2_with (first | (go_at_call 28; refine (impl_inRange_any _ _ _ _).mono ?_; rintro e w' ⟨rfl, rfl⟩))
    go_ret3
    exact ⟨by rw [E.out]; rfl, hb3⟩
  by_cases h2 : inR c.kind 0 3 = true
  rotate_left
  · have e : decideP xs c = (0, 0, 2) := by unfold decideP; rw [if_pos HG.out, if_neg (by simp [caseB, h2])]
    have E := Lib.hid e
    have h2' : inR c.kind 0 3 = false := by simpa using h2
    clear h2 e
    go_wp2_with (first | (go_at_call 28; refine (impl_inRange_any _ _ _ _).mono ?_; rintro e w' ⟨rfl, rfl⟩))
    go_ret3
    exact ⟨by rw [E.out]; rfl, hb3⟩
  have hcB : caseB c = true := by simp [caseB, h0, h1, h2]
  have HCB := Lib.hid hcB; clear hcB
  go_wp2_with (first | (go_at_call 28; refine (impl_inRange_any _ _ _ _).mono ?_; rintro e w' ⟨rfl, rfl⟩) | (refine wpList_load_agg rfl 46 _ rfl ⟨w.heap.size, 0, none⟩ rfl c.row Hcc.out _ Try.underlying46 rfl Case.size ?_))
  refine (impl_decides_any A n cap xs c _ HL.out (by have := statutes_len HG.out; have := HL.out; omega) HX2.out (statutes_rule HG.out) (case_kind h2)).mono ?_
  rintro e w3 ⟨rfl, hb4⟩
  have hb5 := below_step hb3 hb4
  rcases hfi : xs.findIdx? (appliesB · c) with _ | i
  · have e : decideP xs c = (0, 0, 4) := by unfold decideP; rw [if_pos HG.out, if_pos HCB.out, hfi]
    have e2 : decidesI xs c = -1 := by unfold decidesI; rw [hfi]
    have E := Lib.hid e
    rw [e2]
    clear e e2 hfi
    go_wp2
    go_ret3
    exact ⟨by rw [E.out]; rfl, hb5⟩
  · obtain ⟨x, hx, _⟩ := find_get hfi
    have e : decideP xs c = ((i : Int), x.outcome, 0) := by unfold decideP; rw [if_pos HG.out, if_pos HCB.out, hfi]; simp [hx]
    have e2 : decidesI xs c = i := by unfold decidesI; rw [hfi]
    have E := Lib.hid e
    rw [e2]
    have hlt : i < n := by have := HL.out; have := (List.getElem?_eq_some_iff.1 hx).1; omega
    obtain ⟨ad, rfl, had, _, hcx⟩ := (HX2.out.past hb4).at' (ruleRows_get hx)
    obtain ⟨d0, d1, d2, d3, d4, d5⟩ := Rule.cells hcx
    clear hcx e e2 hfi hx
    have hd5 := fun y : Past w3 => Past.cell d5 y
    clear d0 d1 d2 d3 d4
    go_wp2
    refine wp_region_past (by kernel_rfl) (by kernel_rfl) ?_
    repeat (go_big_quiet_step (fail))
    refine wpQuiet_nil ?_
    rintro _ ⟨y, rfl⟩
    go_wp2
    go_ret3
    exact ⟨by rw [E.out]; rfl, below_step hb5 y.2⟩

set_option maxHeartbeats 2000000 in
theorem spec_DecideCase_any (A : Option Addr) (n cap : Nat) (xs : List Rule) (c : Case) (w : World) (hl : xs.length = n) (hn : n ≤ 1048576) (hX : Rd w w.heap.size A 6 (ruleRows xs)) (hf : ∀ x ∈ xs, x.fits) (_hc : c.fits) :
    Calls Try.prog 18 #[.slice A n cap, .agg c.row.toArray] w fun e w' => e = .returned (.tuple #[.int .i64 (decideP xs c).1, .int .i64 (decideP xs c).2.1, .int .i64 (decideP xs c).2.2]) ∧ Below w.heap.size w w' := by
  have hX1 := (hX.alloc (Nat.le_refl _) (.cells c.row.toArray 46)).more (show w.heap.size ≤ (w.alloc (.cells c.row.toArray 46)).heap.size by simp)
  have HX := Lib.hid hX1; clear hX1 hX
  have HF := Lib.hid hf; clear hf
  have HL := Lib.hid hl; clear hl
  by_cases hg : statutesB xs = true
  rotate_left
  · have e : decideP xs c = (0, 0, 1) := by unfold decideP; rw [if_neg hg]
    rw [e]
    have hg' : statutesB xs = false := by simpa using hg
    clear hg e
    go_enter Try.func18, Try.ntmps18
    go_wp2_with (first | (go_at_call 14; refine (spec_AreStatutes_any A n cap xs _ HL.out hn HX.out HF.out).mono ?_; rintro e w1 ⟨rfl, hb1⟩))
    go_ret3
    exact ⟨rfl, ((Below.refl _ w).alloc (Nat.le_refl _) _).trans (hb1.mono (by simp))⟩
  have HG := Lib.hid hg
  go_enter Try.func18, Try.ntmps18
  go_wp2_with fail
  refine (spec_AreStatutes_any A n cap xs _ HL.out hn HX.out HF.out).mono ?_
  rintro e w1 ⟨rfl, hb1⟩
  have hb2 : Below (w.heap.size + 1) (w.alloc (.cells c.row.toArray 46)) w1 := hb1.mono (by simp)
  have hb3 : Below w.heap.size w w1 := ((Below.refl _ w).alloc (Nat.le_refl _) _).trans (hb2.mono (by omega))
  have hsz := hb2.size
  simp at hsz
  have Hcc := Lib.hid (box_cells hb2)
  obtain ⟨c0, c1, c2⟩ := Case.cells (box_cells hb2)
  simp only [Nat.zero_add] at c0 c1 c2
  have HX2 := Lib.hid (HX.out.past hb1)
  by_cases h0 : inR c.age 0 150 = true
  rotate_left
  · have e : decideP xs c = (0, 0, 2) := by unfold decideP; rw [if_pos HG.out, if_neg (by simp [caseB, h0])]
    have E := Lib.hid e
    have h0' : inR c.age 0 150 = false := by simpa using h0
    clear h0 e
    go_wp2_with (first | (go_at_call 25; refine (spec_l01In_any _ _ _ _).mono ?_; rintro e w' ⟨rfl, rfl⟩))
    go_ret3
    exact ⟨by rw [E.out]; rfl, hb3⟩
  by_cases h1 : inR c.years 0 99 = true
  rotate_left
  · have e : decideP xs c = (0, 0, 2) := by unfold decideP; rw [if_pos HG.out, if_neg (by simp [caseB, h1])]
    have E := Lib.hid e
    have h1' : inR c.years 0 99 = false := by simpa using h1
    clear h1 e
    go_wp2_with (first | (go_at_call 25; refine (spec_l01In_any _ _ _ _).mono ?_; rintro e w' ⟨rfl, rfl⟩))
    go_ret3
    exact ⟨by rw [E.out]; rfl, hb3⟩
  by_cases h2 : inR c.kind 0 3 = true
  rotate_left
  · have e : decideP xs c = (0, 0, 2) := by unfold decideP; rw [if_pos HG.out, if_neg (by simp [caseB, h2])]
    have E := Lib.hid e
    have h2' : inR c.kind 0 3 = false := by simpa using h2
    clear h2 e
    go_wp2_with (first | (go_at_call 25; refine (spec_l01In_any _ _ _ _).mono ?_; rintro e w' ⟨rfl, rfl⟩))
    go_ret3
    exact ⟨by rw [E.out]; rfl, hb3⟩
  have hcB : caseB c = true := by simp [caseB, h0, h1, h2]
  have HCB := Lib.hid hcB; clear hcB
  go_wp2_with (first | (go_at_call 25; refine (spec_l01In_any _ _ _ _).mono ?_; rintro e w' ⟨rfl, rfl⟩) | (refine wpList_load_agg rfl 46 _ rfl ⟨w.heap.size, 0, none⟩ rfl c.row Hcc.out _ Try.underlying46 rfl Case.size ?_))
  refine (spec_l23First_any A n cap xs c _ HL.out (by have := statutes_len HG.out; have := HL.out; omega) HX2.out (statutes_rule HG.out) (case_kind h2)).mono ?_
  rintro e w3 ⟨rfl, hb4⟩
  have hb5 := below_step hb3 hb4
  rcases hfi : xs.findIdx? (appliesB · c) with _ | i
  · have e : decideP xs c = (0, 0, 4) := by unfold decideP; rw [if_pos HG.out, if_pos HCB.out, hfi]
    have e2 : decidesI xs c = -1 := by unfold decidesI; rw [hfi]
    have E := Lib.hid e
    rw [e2]
    clear e e2 hfi
    go_wp2
    go_ret3
    exact ⟨by rw [E.out]; rfl, hb5⟩
  · obtain ⟨x, hx, _⟩ := find_get hfi
    have e : decideP xs c = ((i : Int), x.outcome, 0) := by unfold decideP; rw [if_pos HG.out, if_pos HCB.out, hfi]; simp [hx]
    have e2 : decidesI xs c = i := by unfold decidesI; rw [hfi]
    have E := Lib.hid e
    rw [e2]
    have hlt : i < n := by have := HL.out; have := (List.getElem?_eq_some_iff.1 hx).1; omega
    obtain ⟨ad, rfl, had, _, hcx⟩ := (HX2.out.past hb4).at' (ruleRows_get hx)
    obtain ⟨d0, d1, d2, d3, d4, d5⟩ := Rule.cells hcx
    clear hcx e e2 hfi hx
    have hd5 := fun y : Past w3 => Past.cell d5 y
    clear d0 d1 d2 d3 d4
    go_wp2
    refine wp_region_past (by kernel_rfl) (by kernel_rfl) ?_
    repeat (go_big_quiet_step (fail))
    refine wpQuiet_nil ?_
    rintro _ ⟨y, rfl⟩
    go_wp2
    go_ret3
    exact ⟨by rw [E.out]; rfl, below_step hb5 y.2⟩
end Go.Proofs.Ytnipndamigpcdaa
