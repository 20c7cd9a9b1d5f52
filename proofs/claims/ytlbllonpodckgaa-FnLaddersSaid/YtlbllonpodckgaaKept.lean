/- Money that bonds and cash leave over needs: the program's and the reference's contracts. -/
import Derived.Test.YtlbllonpodckgaaFlow
import Derived.Test.YtlbllonpodckgaaWithin
namespace Go.Proofs.Ytlbllonpodckgaa
open Go.RowKit Go.BigFrame

def cashAt (f : Nat → Int) (ys : List Int) (cash : Int) : Nat → Int
  | 0 => cash
  | k + 1 => cashAt f ys cash k + (f k - ys.getD k 0)
def keptTo (f : Nat → Int) (ys : List Int) (cash : Int) (k : Nat) : List Int := (List.range k).map fun j => cashAt f ys cash (j + 1)
theorem keptTo_succ (f : Nat → Int) (ys : List Int) (cash : Int) (k : Nat) : keptTo f ys cash (k + 1) = keptTo f ys cash k ++ [cashAt f ys cash (k + 1)] := by
  simp [keptTo, List.range_succ]
theorem cashAt_bound {f : Nat → Int} {ys : List Int} {cash : Int} (hf : ∀ i, 0 ≤ f i ∧ f i ≤ 36000000000) (hy : ∀ y ∈ ys, 0 ≤ y ∧ y ≤ 1000000000) (hc : 0 ≤ cash ∧ cash ≤ 1000000000) :
    ∀ k : Nat, -(1000000000 * (k : Int)) ≤ cashAt f ys cash k ∧ cashAt f ys cash k ≤ 1000000000 + 36000000000 * (k : Int)
  | 0 => by simp only [cashAt]; omega
  | k + 1 => by
    have h1 := cashAt_bound (ys := ys) hf hy hc k
    have h2 := hf k
    have h3 : 0 ≤ ys.getD k 0 ∧ ys.getD k 0 ≤ 1000000000 := by
      by_cases hk : k < ys.length
      · have : ys.getD k 0 = ys[k] := by simp [hk]
        rw [this]; exact hy _ (List.getElem_mem hk)
      · have : ys.getD k 0 = 0 := by rw [List.getD_eq_getElem?_getD, List.getElem?_eq_none (by omega)]; rfl
        rw [this]; omega
    simp only [cashAt]
    omega


set_option maxHeartbeats 2000000 in
theorem impl_kept_any (A A2 : Option Addr) (n cap n2 cap2 : Nat) (xs : List Bond) (ys : List Int) (cash : Int) (w : World) (hl : xs.length = n) (hn : n ≤ 30) (hX : Rd w w.heap.size A 3 (bondRows xs)) (hv : ∀ x ∈ xs, bondB x = true)
    (hl2 : ys.length = n2) (hn2 : n2 ≤ 40) (hY : Rd w w.heap.size A2 1 (intRows ys)) (hy : ∀ y ∈ ys, 0 ≤ y ∧ y ≤ 1000000000) (hc : 0 ≤ cash ∧ cash ≤ 1000000000) :
    Calls Try.prog 50 #[.slice A n cap, .slice A2 n2 cap2, .int .i64 cash] w fun e w' => ∃ A' c', e = .returned (.slice A' n2 c') ∧ Res w.heap.size w' 2 1 A' n2 c' (intRows (keptTo (flowAt xs) ys cash n2)) ∧ Below w.heap.size w w' := by
  obtain ⟨i0, hi0, hz0, hz1, hz2⟩ := info_parts Int64.info
  have HI := Lib.hid (And.intro hi0 (And.intro hz0 (And.intro hz1 hz2))); clear hi0 hz0 hz1 hz2
  have HF := Lib.hid (fun i : Nat => flow_bound (xs := xs) i hv)
  have HC := Lib.hid (cashAt_bound (f := flowAt xs) (ys := ys) (cash := cash) (fun i => by have := HF.out i; rw [hl] at this; omega) hy hc)
  have HV := Lib.hid hv; clear hv
  have HX := Lib.hid hX; clear hX
  have HY0 := Lib.hid hY; clear hY
  have HL := Lib.hid hl; clear hl
  have HL2 := Lib.hid hl2; clear hl2
  have HYB := Lib.hid hy; clear hy
  go_enter Try.func50, Try.ntmps50
  go_wp2_with fail
  refine (impl_flowOf_any A n cap xs _ HL.out hn HX.out HV.out).mono ?_
  rintro e w1 ⟨rfl, hB, hb1⟩
  have HB := Lib.hid hB; clear hB
  have HR0 := Lib.hid (Res.zero w1 w1.heap.size 2 1 (Nat.le_refl _))
  go_wp2
  go_loopw [2, 8, 16] (fun c o i wr => ∃ (k : Nat) (A' : Option Addr) (c' : Nat), k ≤ n2 ∧ i = .int .i64 k ∧ c = .int .i64 (cashAt (flowAt xs) ys cash k) ∧ o = .slice A' k c' ∧ Res w1.heap.size wr 2 1 A' k c' (intRows (keptTo (flowAt xs) ys cash k)) ∧ Below w1.heap.size w1 wr) (fun _ _ i _ => n2 - (intOf i).toNat)
  case atStart => exact ⟨0, _, _, by omega, rfl, rfl, rfl, HR0.out, (Below.refl _ _).alloc (Nat.le_refl _) _⟩
  case round =>
    obtain ⟨k, A', c', hk, rfl, rfl, rfl, hR, hb⟩ := hrel
    have HR := Lib.hid hR; clear hR
    by_cases hlt : k < n2
    · obtain ⟨z, hz⟩ := get_of_lt (xs := ys) (k := k) (by rw [HL2.out]; exact hlt)
      obtain ⟨ad, rfl, had, hc⟩ := ((HY0.out.past hb1).past hb).int_at hz
      have e0 : wr.cell? ⟨w.heap.size, k, none⟩ = some (.int .i64 (flowAt xs k)) := by
        rw [(HB.out.below' hb).cell, flowCells_get _ (by omega)]
      have hg : ys.getD k 0 = z := by simp [hz]
      have HZ := Lib.hid (show cashAt (flowAt xs) ys cash (k + 1) = cashAt (flowAt xs) ys cash k + (flowAt xs k - z) by simp only [cashAt, hg])
      have hzb := HYB.out z (List.mem_of_getElem? hz)
      obtain ⟨z1, z2⟩ := hzb
      have hfk : 0 ≤ flowAt xs k ∧ flowAt xs k ≤ 36000000000 := by have := HF.out k; rw [HL.out] at this; omega
      obtain ⟨f1, f2⟩ := hfk
      have hck : -40000000000 ≤ cashAt (flowAt xs) ys cash k ∧ cashAt (flowAt xs) ys cash k ≤ 1441000000000 := by have := HC.out k; omega
      obtain ⟨g1, g2⟩ := hck
      have hk40 : (k : Int) < 40 := by omega
      clear hg hz
      have hsz : w1.heap.size ≤ wr.heap.size := hb.size
      go_wp2_with (at_builtin; refine wpList_append_row wr rfl (.tmp 29) (.tmp 31) 33 rfl w1.heap.size 2 i0 _ 1 8 Try.underlying33 HI.out.1 HI.out.2.1 HI.out.2.2.1 HI.out.2.2.2 rfl (by decide) (by decide) A' k c' _ rfl HR.out [.int .i64 (cashAt (flowAt xs) ys cash k + (flowAt xs k - z))] _ rfl rfl (by simp [Value.oneCell']) (by omega) hsz ?_)
      intro B2 c2 w3 hR3 hb5
      have HR3 := Lib.hid hR3; clear hR3
      have HZ2 := Lib.hid (HZ.out)
      have hb6 : Below w1.heap.size w1 w3 := (hb).trans hb5
      go_wp2
      go_roundw
      case rel => exact ⟨k + 1, B2, c2, by omega, by go_num, by rw [HZ2.out], rfl, by rw [keptTo_succ, intRows_snoc, HZ2.out]; exact HR3.out, hb6⟩
      case measure => simp [intOf]; omega
    · have hkn : k = n2 := by omega
      subst hkn
      go_wp2
      go_ret
      exact ⟨A', c', rfl, HR.out.more hb1.size, below_step hb1 hb⟩

set_option maxHeartbeats 2000000 in
theorem spec_l20Kept_any (A A2 : Option Addr) (n cap n2 cap2 : Nat) (xs : List Bond) (ys : List Int) (cash : Int) (w : World) (hl : xs.length = n) (hn : n ≤ 30) (hX : Rd w w.heap.size A 3 (bondRows xs)) (hv : ∀ x ∈ xs, bondB x = true)
    (hl2 : ys.length = n2) (hn2 : n2 ≤ 40) (hY : Rd w w.heap.size A2 1 (intRows ys)) (hy : ∀ y ∈ ys, 0 ≤ y ∧ y ≤ 1000000000) (hc : 0 ≤ cash ∧ cash ≤ 1000000000) :
    Calls Try.prog 53 #[.slice A n cap, .slice A2 n2 cap2, .int .i64 cash] w fun e w' => ∃ A' c', e = .returned (.slice A' n2 c') ∧ Res w.heap.size w' 2 1 A' n2 c' (intRows (keptTo (flowAt xs) ys cash n2)) ∧ Below w.heap.size w w' := by
  obtain ⟨i0, hi0, hz0, hz1, hz2⟩ := info_parts Int64.info
  have HI := Lib.hid (And.intro hi0 (And.intro hz0 (And.intro hz1 hz2))); clear hi0 hz0 hz1 hz2
  have HF := Lib.hid (fun i : Nat => flow_bound (xs := xs) i hv)
  have HC := Lib.hid (cashAt_bound (f := flowAt xs) (ys := ys) (cash := cash) (fun i => by have := HF.out i; rw [hl] at this; omega) hy hc)
  have HV := Lib.hid hv; clear hv
  have HX := Lib.hid hX; clear hX
  have HY0 := Lib.hid hY; clear hY
  have HL := Lib.hid hl; clear hl
  have HL2 := Lib.hid hl2; clear hl2
  have HYB := Lib.hid hy; clear hy
  go_enter Try.func53, Try.ntmps53
  go_wp2_with fail
  refine (spec_l20Flow_any A n cap xs _ HL.out hn HX.out HV.out).mono ?_
  rintro e w1 ⟨rfl, hB, hb1⟩
  have HB := Lib.hid hB; clear hB
  have HR0 := Lib.hid (Res.zero w1 w1.heap.size 2 1 (Nat.le_refl _))
  go_wp2
  go_loopw [2, 8, 9] (fun c o i wr => ∃ (k : Nat) (A' : Option Addr) (c' : Nat), k ≤ n2 ∧ i = .int .i64 k ∧ c = .int .i64 (cashAt (flowAt xs) ys cash k) ∧ o = .slice A' k c' ∧ Res w1.heap.size wr 2 1 A' k c' (intRows (keptTo (flowAt xs) ys cash k)) ∧ Below w1.heap.size w1 wr) (fun _ _ i _ => n2 - (intOf i).toNat)
  case atStart => exact ⟨0, _, _, by omega, rfl, rfl, rfl, HR0.out, (Below.refl _ _).alloc (Nat.le_refl _) _⟩
  case round =>
    obtain ⟨k, A', c', hk, rfl, rfl, rfl, hR, hb⟩ := hrel
    have HR := Lib.hid hR; clear hR
    by_cases hlt : k < n2
    · obtain ⟨z, hz⟩ := get_of_lt (xs := ys) (k := k) (by rw [HL2.out]; exact hlt)
      obtain ⟨ad, rfl, had, hc⟩ := ((HY0.out.past hb1).past hb).int_at hz
      have e0 : wr.cell? ⟨w.heap.size, k, none⟩ = some (.int .i64 (flowAt xs k)) := by
        rw [(HB.out.below' hb).cell, flowCells_get _ (by omega)]
      have hg : ys.getD k 0 = z := by simp [hz]
      have HZ := Lib.hid (show cashAt (flowAt xs) ys cash (k + 1) = cashAt (flowAt xs) ys cash k + (flowAt xs k - z) by simp only [cashAt, hg])
      have hzb := HYB.out z (List.mem_of_getElem? hz)
      obtain ⟨z1, z2⟩ := hzb
      have hfk : 0 ≤ flowAt xs k ∧ flowAt xs k ≤ 36000000000 := by have := HF.out k; rw [HL.out] at this; omega
      obtain ⟨f1, f2⟩ := hfk
      have hck : -40000000000 ≤ cashAt (flowAt xs) ys cash k ∧ cashAt (flowAt xs) ys cash k ≤ 1441000000000 := by have := HC.out k; omega
      obtain ⟨g1, g2⟩ := hck
      have hk40 : (k : Int) < 40 := by omega
      clear hg hz
      have hsz : w1.heap.size ≤ wr.heap.size := hb.size
      have d0 := fun y : Past wr => Past.cell e0 y
      have d1 := fun y : Past wr => Past.cell hc y
      go_wp2
      refine wp_region_past (by kernel_rfl) (by kernel_rfl) ?_
      repeat (go_big_quiet_step (fail))
      refine wpQuiet_nil ?_
      rintro _ ⟨y, rfl⟩
      have HY := Lib.hid y.2
      have HRy := Lib.hid (HR.out.past y.2)
      go_wp2_with (at_builtin; refine wpList_append_row y.1 rfl (.tmp 30) (.tmp 32) 33 rfl w1.heap.size 2 i0 _ 1 8 Try.underlying33 HI.out.1 HI.out.2.1 HI.out.2.2.1 HI.out.2.2.2 rfl (by decide) (by decide) A' k c' _ rfl HRy.out [.int .i64 (cashAt (flowAt xs) ys cash k + flowAt xs k - z)] _ rfl rfl (by simp [Value.oneCell']) (by omega) (Nat.le_trans hsz HY.out.size) ?_)
      intro B2 c2 w3 hR3 hb5
      have HR3 := Lib.hid hR3; clear hR3
      have HZ2 := Lib.hid (HZ.out.trans (show _ = cashAt (flowAt xs) ys cash k + flowAt xs k - z by omega))
      have hb6 : Below w1.heap.size w1 w3 := (hb.trans (HY.out.mono hsz)).trans hb5
      go_wp2
      go_roundw
      case rel => exact ⟨k + 1, B2, c2, by omega, by go_num, by rw [HZ2.out], rfl, by rw [keptTo_succ, intRows_snoc, HZ2.out]; exact HR3.out, hb6⟩
      case measure => simp [intOf]; omega
    · have hkn : k = n2 := by omega
      subst hkn
      go_wp2
      go_ret
      exact ⟨A', c', rfl, HR.out.more hb1.size, below_step hb1 hb⟩

def needsB (ys : List Int) : Bool := decide (ys.length ≤ 40) && allR ys 0 1000000000
def needsCode (xs : List Bond) (ys : List Int) (cash : Int) : Int := if bondsB xs = true then (if needsB ys = true ∧ inR cash 0 1000000000 = true then 0 else 2) else 1
def keptL (xs : List Bond) (ys : List Int) (cash : Int) : List Int := keptTo (flowAt xs) ys cash ys.length
def keptMoneyP (xs : List Bond) (ys : List Int) (cash : Int) : List Int × Int := if needsCode xs ys cash = 0 then (keptL xs ys cash, 0) else ([], needsCode xs ys cash)
theorem needs_ok {xs : List Bond} {ys : List Int} {cash : Int} (h : needsCode xs ys cash = 0) : bondsB xs = true ∧ (ys.length ≤ 40 ∧ ∀ y ∈ ys, 0 ≤ y ∧ y ≤ 1000000000) ∧ 0 ≤ cash ∧ cash ≤ 1000000000 := by
  unfold needsCode at h
  by_cases h1 : bondsB xs = true
  · rw [if_pos h1] at h
    by_cases h2 : needsB ys = true ∧ inR cash 0 1000000000 = true
    · obtain ⟨h3, h4⟩ := h2
      simp only [needsB, Bool.and_eq_true, decide_eq_true_eq, allR, List.all_eq_true] at h3
      exact ⟨h1, ⟨h3.1, fun y hy => inR_true.1 (h3.2 y hy)⟩, inR_true.1 h4⟩
    · rw [if_neg h2] at h; omega
  · rw [if_neg h1] at h; omega

set_option maxHeartbeats 2000000 in
theorem impl_checkNeeds_any (A A2 : Option Addr) (n cap n2 cap2 : Nat) (xs : List Bond) (ys : List Int) (cash : Int) (w : World) (hl : xs.length = n) (hn : n ≤ 1048576) (hX : Rd w w.heap.size A 3 (bondRows xs)) (hf : ∀ x ∈ xs, x.fits)
    (hl2 : ys.length = n2) (hn2 : n2 ≤ 1048576) (hY : Rd w w.heap.size A2 1 (intRows ys)) :
    Calls Try.prog 49 #[.slice A n cap, .slice A2 n2 cap2, .int .i64 cash] w fun e w' => e = .returned (.int .i64 (needsCode xs ys cash)) ∧ Below w.heap.size w w' := by
  have HX := Lib.hid hX; clear hX
  have HY := Lib.hid hY; clear hY
  have HF := Lib.hid hf; clear hf
  have HL := Lib.hid hl; clear hl
  have HL2 := Lib.hid hl2; clear hl2
  by_cases h1 : bondsB xs = true
  rotate_left
  · have Q := Lib.hid (show needsCode xs ys cash = 1 by unfold needsCode; rw [if_neg h1])
    have h1' : bondsB xs = false := by simpa using h1
    clear h1
    go_enter Try.func49, Try.ntmps49
    go_wp2_with (first | (go_at_call 27; refine (impl_AreBonds_any A n cap xs _ HL.out hn HX.out HF.out).mono ?_; rintro e w1 ⟨rfl, hb1⟩))
    go_ret
    exact ⟨by rw [Q.out]; rfl, hb1⟩
  have H1 := Lib.hid h1
  by_cases h2 : n2 ≤ 40
  rotate_left
  · have Q := Lib.hid (show needsCode xs ys cash = 2 by unfold needsCode; rw [if_pos h1, if_neg (fun h => h2 (by have := h.1; simp [needsB, HL2.out] at this; exact this.1))])
    go_enter Try.func49, Try.ntmps49
    go_wp2_with (first | (go_at_call 27; refine (impl_AreBonds_any A n cap xs _ HL.out hn HX.out HF.out).mono ?_; rintro e w1 ⟨rfl, hb1⟩))
    go_ret
    exact ⟨by rw [Q.out]; rfl, hb1⟩
  by_cases h3 : allR ys 0 1000000000 = true
  rotate_left
  · have Q := Lib.hid (show needsCode xs ys cash = 2 by unfold needsCode; rw [if_pos h1, if_neg (fun h => h3 (by have := h.1; simp [needsB] at this; exact this.2))])
    have h3' : allR ys 0 1000000000 = false := by simpa using h3
    clear h3
    go_enter Try.func49, Try.ntmps49
    go_wp2_with (first | (go_at_call 27; refine (impl_AreBonds_any A n cap xs _ HL.out hn HX.out HF.out).mono ?_; rintro e w1 ⟨rfl, hb1⟩) | (go_at_call 37; refine (impl_allIn_any A2 n2 cap2 ys 0 1000000000 _ HL2.out hn2 (HY.out.past hb1)).mono ?_; rintro e w2 ⟨rfl, hb2⟩))
    go_ret
    exact ⟨by rw [Q.out]; rfl, below_step hb1 hb2⟩
  by_cases h4 : inR cash 0 1000000000 = true
  rotate_left
  · have Q := Lib.hid (show needsCode xs ys cash = 2 by unfold needsCode; rw [if_pos h1, if_neg (fun h => h4 h.2)])
    have h4' : inR cash 0 1000000000 = false := by simpa using h4
    clear h4
    go_enter Try.func49, Try.ntmps49
    go_wp2_with (first | (go_at_call 27; refine (impl_AreBonds_any A n cap xs _ HL.out hn HX.out HF.out).mono ?_; rintro e w1 ⟨rfl, hb1⟩) | (go_at_call 37; refine (impl_allIn_any A2 n2 cap2 ys 0 1000000000 _ HL2.out hn2 (HY.out.past hb1)).mono ?_; rintro e w2 ⟨rfl, hb2⟩) | (go_at_call 68; refine (impl_isAmount_any _ _).mono ?_; rintro e w' ⟨rfl, rfl⟩))
    go_ret
    exact ⟨by rw [Q.out]; rfl, below_step hb1 hb2⟩
  have Q := Lib.hid (show needsCode xs ys cash = 0 by unfold needsCode; rw [if_pos h1, if_pos ⟨by simp [needsB, HL2.out, h2, h3], h4⟩])
  go_enter Try.func49, Try.ntmps49
  go_wp2_with (first | (go_at_call 27; refine (impl_AreBonds_any A n cap xs _ HL.out hn HX.out HF.out).mono ?_; rintro e w1 ⟨rfl, hb1⟩) | (go_at_call 37; refine (impl_allIn_any A2 n2 cap2 ys 0 1000000000 _ HL2.out hn2 (HY.out.past hb1)).mono ?_; rintro e w2 ⟨rfl, hb2⟩) | (go_at_call 68; refine (impl_isAmount_any _ _).mono ?_; rintro e w' ⟨rfl, rfl⟩))
  go_ret
  exact ⟨by rw [Q.out]; rfl, below_step hb1 hb2⟩


theorem spec_l20Needs_any (A : Option Addr) (n cap : Nat) (ys : List Int) (w : World) (hl : ys.length = n) (hn : n ≤ 1048576) (hX : Rd w w.heap.size A 1 (intRows ys)) :
    Calls Try.prog 34 #[.slice A n cap] w fun e w' => e = .returned (.bool (needsB ys)) ∧ w = w' := by
  have HX := Lib.hid hX; clear hX
  have e : needsB ys = (allR ys 0 1000000000 && decide ((n : Int) ≤ 40)) := by
    rw [needsB, hl, Bool.and_comm]; congr 1; simp; omega
  rw [e]
  have HL := Lib.hid hl; clear hl e
  go_enter Try.func34, Try.ntmps34
  go_wp2_with (first | (go_at_call 63; refine (spec_l01Within_any A n cap ys 40 0 1000000000 _ HL.out hn HX.out).mono ?_; rintro e w' ⟨rfl, rfl⟩))
  go_ret
  exact ⟨rfl, rfl⟩
theorem spec_l20Code_any (A : Option Addr) (n cap : Nat) (xs : List Bond) (b : Bool) (w : World) (hl : xs.length = n) (hn : n ≤ 1048576) (hX : Rd w w.heap.size A 3 (bondRows xs)) (hf : ∀ x ∈ xs, x.fits) :
    Calls Try.prog 51 #[.slice A n cap, .bool b] w fun e w' => e = .returned (.int .i64 (if bondsB xs = true then (if b = true then 0 else 2) else 1)) ∧ Below w.heap.size w w' := by
  have HX := Lib.hid hX; clear hX
  have HF := Lib.hid hf; clear hf
  have HL := Lib.hid hl; clear hl
  by_cases h1 : bondsB xs = true
  · cases b
    · go_enter Try.func51, Try.ntmps51
      go_wp2_with (first | (go_at_call 70; refine (spec_AreBonds_any A n cap xs _ HL.out hn HX.out HF.out).mono ?_; rintro e w1 ⟨rfl, hb1⟩))
      go_ret
      exact ⟨rfl, hb1⟩
    · go_enter Try.func51, Try.ntmps51
      go_wp2_with (first | (go_at_call 70; refine (spec_AreBonds_any A n cap xs _ HL.out hn HX.out HF.out).mono ?_; rintro e w1 ⟨rfl, hb1⟩))
      go_ret
      exact ⟨rfl, hb1⟩
  · have h1' : bondsB xs = false := by simpa using h1
    clear h1
    go_enter Try.func51, Try.ntmps51
    go_wp2_with (first | (go_at_call 70; refine (spec_AreBonds_any A n cap xs _ HL.out hn HX.out HF.out).mono ?_; rintro e w1 ⟨rfl, hb1⟩))
    all_goals (first | (exfalso; simp_all; done) | (go_ret; exact ⟨by simp, hb1⟩))

theorem keptMoney_small0 {n n2 : Nat} (xs : List Bond) (_hs : n ≤ 1048576) (_hl : xs.length = n) (_hf : ∀ x ∈ xs, x.fits) (ys : List Int) (hs2 : n2 ≤ 1048576) (hl2 : ys.length = n2) (_hf2 : ∀ y ∈ ys, In64 y) (cash : Int) : (keptMoneyP xs ys cash).1.length ≤ 1048576 := by
  unfold keptMoneyP
  split
  · simp [keptL, keptTo]; omega
  · simp

end Go.Proofs.Ytlbllonpodckgaa
