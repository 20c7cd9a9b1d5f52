/- What bonds are worth at a rate, and their mean term: the program's and the reference's contracts. -/
import Derived.Test.YtoabhnobgdjgkaaFlow
import Derived.Test.YtoabhnobgdjgkaaKept
import Derived.Test.YtoabhnobgdjgkaaRate
import Derived.Test.YtoabhnobgdjgkaaSum
import Derived.Test.YtoabhnobgdjgkaaGcd
import Derived.Test.YtoabhnobgdjgkaaDiv2
import Derived.Test.YtoabhnobgdjgkaaApp
namespace Go.Proofs.Ytoabhnobgdjgkaa
open Go.RowKit Go.BigFrame

def pvAt (xs : List Bond) (rate : Int) (k : Nat) : Int := flowAt xs k * disc rate (k + 1) / 1000000000
def pvTo (xs : List Bond) (rate : Int) (k : Nat) : List Int := (List.range k).map (pvAt xs rate)
def pvL (xs : List Bond) (rate : Int) : List Int := pvTo xs rate 40
theorem pvTo_succ (xs : List Bond) (rate : Int) (k : Nat) : pvTo xs rate (k + 1) = pvTo xs rate k ++ [pvAt xs rate k] := by simp [pvTo, List.range_succ]
theorem pvL_get (xs : List Bond) (rate : Int) {k : Nat} (h : k < 40) : (pvL xs rate)[k]? = some (pvAt xs rate k) := by simp [pvL, pvTo, h]
theorem pvL_length (xs : List Bond) (rate : Int) : (pvL xs rate).length = 40 := by simp [pvL, pvTo]
theorem flow_bound30 {xs : List Bond} (i : Nat) (hl : xs.length ≤ 30) (h : ∀ x ∈ xs, bondB x = true) : 0 ≤ flowAt xs i ∧ flowAt xs i ≤ 36000000000 := by
  have := flow_bound (xs := xs) i h
  omega
theorem pv_bound {xs : List Bond} {rate : Int} (k : Nat) (hl : xs.length ≤ 30) (h : ∀ x ∈ xs, bondB x = true) (hr : 0 ≤ rate) : 0 ≤ pvAt xs rate k ∧ pvAt xs rate k ≤ 36000000000 := by
  have h1 := flow_bound30 k hl h
  have h2 := disc_bound hr (k + 1)
  unfold pvAt
  refine ⟨Int.ediv_nonneg (Int.mul_nonneg h1.1 h2.1) (by omega), ?_⟩
  have h3 : flowAt xs k * disc rate (k + 1) ≤ 36000000000 * 1000000000 := Int.mul_le_mul h1.2 h2.2 h2.1 (by omega)
  omega
theorem pv_md {xs : List Bond} {rate : Int} (k : Nat) (hl : xs.length ≤ 30) (h : ∀ x ∈ xs, bondB x = true) (hr : 0 ≤ rate) :
    mdP (flowAt xs k) (disc rate (k + 1)) 1000000000 = (pvAt xs rate k, flowAt xs k * disc rate (k + 1) % 1000000000, true) ∧ ldP (flowAt xs k) (disc rate (k + 1)) 1000000000 = (pvAt xs rate k, flowAt xs k * disc rate (k + 1) % 1000000000) := by
  have := pv_bound k hl h hr
  unfold pvAt at this
  unfold mdP ldP
  rw [if_pos (by omega), if_pos (by omega)]
  exact ⟨rfl, rfl⟩
theorem pvL_bound {xs : List Bond} {rate : Int} (hl : xs.length ≤ 30) (h : ∀ x ∈ xs, bondB x = true) (hr : 0 ≤ rate) : ∀ v ∈ pvL xs rate, 0 ≤ v ∧ v ≤ 36000000000 := by
  intro v hv
  simp only [pvL, pvTo, List.mem_map, List.mem_range] at hv
  obtain ⟨k, _, rfl⟩ := hv
  exact pv_bound k hl h hr
theorem pvL_sums {xs : List Bond} {rate : Int} (hl : xs.length ≤ 30) (h : ∀ x ∈ xs, bondB x = true) (hr : 0 ≤ rate) : Sums (pvL xs rate) ∧ 0 ≤ (pvL xs rate).sum ∧ (pvL xs rate).sum ≤ 1440000000000 := by
  have := sums_of (xs := pvL xs rate) (hi := 36000000000) (n := 40) (by omega) (by rw [pvL_length]; omega) (pvL_bound hl h hr) (by omega)
  exact this

set_option maxHeartbeats 2000000 in
theorem impl_presentValues_any (A : Option Addr) (n cap : Nat) (xs : List Bond) (rate : Int) (w : World) (hl : xs.length = n) (hn : n ≤ 30) (hX : Rd w w.heap.size A 3 (bondRows xs)) (hv : ∀ x ∈ xs, bondB x = true) (hr : 0 ≤ rate ∧ rate ≤ 200) :
    Calls Try.prog 104 #[.slice A n cap, .int .i64 rate] w fun e w' => ∃ A' c', e = .returned (.slice A' 40 c') ∧ Res w.heap.size w' 2 1 A' 40 c' (intRows (pvL xs rate)) ∧ Below w.heap.size w w' := by
  obtain ⟨i0, hi0, hz0, hz1, hz2⟩ := info_parts Int64.info
  have HI := Lib.hid (And.intro hi0 (And.intro hz0 (And.intro hz1 hz2))); clear hi0 hz0 hz1 hz2
  obtain ⟨r1, r2⟩ := hr
  have HP := Lib.hid (fun k : Nat => pv_bound (xs := xs) (rate := rate) k (by omega) hv r1)
  have HM := Lib.hid (fun k : Nat => (pv_md (xs := xs) (rate := rate) k (by omega) hv r1).1)
  have HFB := Lib.hid (fun k : Nat => flow_bound30 (xs := xs) k (by omega) hv)
  have HD := Lib.hid (disc_bound r1)
  have HX := Lib.hid hX; clear hX
  have HL := Lib.hid hl; clear hl
  have HV := Lib.hid hv; clear hv
  go_enter Try.func104, Try.ntmps104
  go_wp2_with fail
  refine (impl_discounts_any rate _ ⟨r1, r2⟩).mono ?_
  rintro e w1 ⟨AD, cD, rfl, hD, hb1⟩
  have HR0 := Lib.hid (Res.zero w1 w1.heap.size 2 1 (Nat.le_refl _))
  have hba : Below w1.heap.size w1 (w1.alloc (.cells #[] 2)) := (Below.refl _ _).alloc (Nat.le_refl _) _
  have HDR := Lib.hid hD.rd; clear hD
  go_wp2_with fail
  refine (impl_flowOf_any A n cap xs _ HL.out hn ((HX.out.past hb1).past hba) HV.out).mono ?_
  rintro e w2 ⟨rfl, hB, hb2⟩
  have hw2 := Below.trans hba (hb2.mono (by simp))
  have HR1 := Lib.hid (HR0.out.past hb2)
  have HB := Lib.hid hB; clear hB
  have HDR2 := Lib.hid (HDR.out.past hw2)
  have HW2 := Lib.hid hw2; clear hw2
  have hs2 : w1.heap.size ≤ w2.heap.size := HW2.out.size
  go_wp2
  go_loopw [6, 18] (fun o i wr => ∃ (k : Nat) (A' : Option Addr) (c' : Nat), k ≤ 40 ∧ i = .int .i64 k ∧ o = .slice A' k c' ∧ Res w1.heap.size wr 2 1 A' k c' (intRows (pvTo xs rate k)) ∧ Blk wr (w1.heap.size + 1) 2 (flowCells (flowAt xs)) ∧ (∀ k, blkOf A' = some k → k = w1.heap.size ∨ w1.heap.size + 1 < k) ∧ Below w1.heap.size w1 wr) (fun _ i _ => 40 - (intOf i).toNat)
  case atStart => exact ⟨0, _, _, by omega, rfl, rfl, HR1.out, by simpa using HB.out, fun k hk => by simp [blkOf] at hk; omega, HW2.out⟩
  case round =>
    obtain ⟨k, A', c', hk, rfl, rfl, hR, hBk, hfar, hb⟩ := hrel
    have HFar := Lib.hid hfar; clear hfar
    have HR := Lib.hid hR; clear hR
    have HBk := Lib.hid hBk; clear hBk
    by_cases hlt : k < 40
    · have e0 : wr.cell? ⟨w1.heap.size + 1, k, none⟩ = some (.int .i64 (flowAt xs k)) := by
        rw [HBk.out.cell, flowCells_get _ (by omega)]
      obtain ⟨ad, rfl, had, hc⟩ := (HDR.out.past hb).int_at (discL_get rate (show k + 1 < 121 by omega))
      have hk40 : (k : Int) < 40 := by omega
      rw [show ad.add (k + 1) = ⟨ad.block, ad.off + (k + 1), none⟩ from by simp [Addr.add]] at hc
      have hmd := HM.out k
      obtain ⟨f1, f2⟩ := HFB.out k
      obtain ⟨d1, d2⟩ := HD.out (k + 1)
      have HMd := Lib.hid hmd; clear hmd
      have hsz : w1.heap.size ≤ wr.heap.size := hb.size
      go_wp2_with fail
      refine (impl_multiplyDivide_any (flowAt xs k) (disc rate (k + 1)) 1000000000 _ ⟨by omega, by omega⟩ ⟨by omega, by omega⟩ ⟨by omega, by omega⟩).mono ?_
      rw [HMd.out]
      rintro e w3 ⟨rfl, hb3⟩
      have HR3 := Lib.hid (HR.out.past hb3)
      have hsz3 : w1.heap.size ≤ w3.heap.size := Nat.le_trans hsz hb3.size
      have hb4 := hb.trans (hb3.mono hsz)
      have hg3 := Lib.hid (HBk.out.below' hb3)
      go_wp2_with (at_builtin; refine wpList_append_row_at w3 rfl (.tmp 34) (.tmp 36) 33 rfl w1.heap.size 2 i0 _ 1 8 Try.underlying33 HI.out.1 HI.out.2.1 HI.out.2.2.1 HI.out.2.2.2 rfl (by decide) (by decide) A' k c' _ rfl HR3.out [.int .i64 (pvAt xs rate k)] _ rfl rfl (by simp [Value.oneCell']) (by omega) hsz3 ?_)
      intro B2 c2 w4 hR4 hb5 hkb hbl
      have HR4 := Lib.hid hR4; clear hR4
      have hb6 : Below w1.heap.size w1 w4 := hb4.trans hb5
      have hg4 := Lib.hid (hg3.out.kept hkb (fun e => by have := HFar.out _ e.symm; omega))
      have hlw3 := hg3.out.lt
      have HFar2 := Lib.hid (show ∀ k, blkOf B2 = some k → k = w1.heap.size ∨ w1.heap.size + 1 < k from fun k hk => by
        rcases hbl with h | h
        · exact HFar.out k (h.symm.trans hk)
        · rw [h] at hk; injection hk with hk; omega)
      clear hbl hkb
      go_wp2
      go_roundw
      case rel => exact ⟨k + 1, B2, c2, by omega, by go_num, rfl, by rw [pvTo_succ, intRows_snoc]; exact HR4.out, hg4.out, HFar2.out, hb6⟩
      case measure => simp [intOf]; omega
    · have hkn : k = 40 := by omega
      subst hkn
      go_wp2
      go_ret
      exact ⟨A', c', rfl, HR.out.more hb1.size, below_step hb1 hb⟩

theorem pvCells_step (xs : List Bond) (rate : Int) {k : Nat} (hk : k < 40) : (flowCells fun i => if i < k then pvAt xs rate i else flowAt xs i).setIfInBounds k (.int .i64 (pvAt xs rate k)) = flowCells fun i => if i < k + 1 then pvAt xs rate i else flowAt xs i := by
  rw [flowCells_set _ hk]
  apply flowCells_congr
  intro i _
  by_cases h1 : i = k
  · subst h1; simp
  · by_cases h2 : i < k
    · rw [if_neg h1, if_pos h2, if_pos (by omega)]
    · rw [if_neg h1, if_neg h2, if_neg (by omega)]
set_option maxHeartbeats 2000000 in
theorem spec_l20Values_any (A : Option Addr) (n cap : Nat) (xs : List Bond) (rate : Int) (w : World) (hl : xs.length = n) (hn : n ≤ 30) (hX : Rd w w.heap.size A 3 (bondRows xs)) (hv : ∀ x ∈ xs, bondB x = true) (hr : 0 ≤ rate ∧ rate ≤ 200) :
    Calls Try.prog 107 #[.slice A n cap, .int .i64 rate] w fun e w' => e = .returned (.slice (some ⟨w.heap.size, 0, none⟩) 40 40) ∧ Blk w' w.heap.size 2 (flowCells (pvAt xs rate)) ∧ Below w.heap.size w w' := by
  obtain ⟨r1, r2⟩ := hr
  have HP := Lib.hid (fun k : Nat => pv_bound (xs := xs) (rate := rate) k (by omega) hv r1)
  have HM := Lib.hid (fun k : Nat => (pv_md (xs := xs) (rate := rate) k (by omega) hv r1).2)
  have HFB := Lib.hid (fun k : Nat => flow_bound30 (xs := xs) k (by omega) hv)
  have HD := Lib.hid (disc_bound r1)
  have HX := Lib.hid hX; clear hX
  have HL := Lib.hid hl; clear hl
  have HV := Lib.hid hv; clear hv
  go_enter Try.func107, Try.ntmps107
  go_wp2_with fail
  refine (spec_l20Flow_any A n cap xs _ HL.out hn HX.out HV.out).mono ?_
  rintro e w1 ⟨rfl, hB, hb1⟩
  have HB := Lib.hid hB; clear hB
  go_wp2
  go_loopw [6] (fun i wr => ∃ k : Nat, k ≤ 40 ∧ i = .int .i64 k ∧ Blk wr w.heap.size 2 (flowCells fun i => if i < k then pvAt xs rate i else flowAt xs i) ∧ Below w.heap.size w wr) (fun i _ => 40 - (intOf i).toNat)
  case atStart => exact ⟨0, by omega, rfl, by simpa using HB.out, hb1⟩
  case round =>
    obtain ⟨k, hk, rfl, hBk, hb⟩ := hrel
    have HBk := Lib.hid hBk; clear hBk
    by_cases hlt : k < 40
    · have e0 : wr.cell? ⟨w.heap.size, k, none⟩ = some (.int .i64 (flowAt xs k)) := by
        rw [HBk.out.cell, flowCells_get _ (by omega), if_neg (by omega)]
      have hk40 : (k : Int) < 40 := by omega
      have HMd := Lib.hid (HM.out k)
      obtain ⟨f1, f2⟩ := HFB.out k
      obtain ⟨d1, d2⟩ := HD.out (k + 1)
      have hlw : w.heap.size < wr.heap.size := HBk.out.lt
      have d0 := fun y : Past wr => Past.cell e0 y
      go_wp2
      refine wp_region_past (by kernel_rfl) (by kernel_rfl) ?_
      repeat (go_big_quiet_step ((first | (go_at_call 128; exact past_same ((spec_l04Discount_any rate _ _ ⟨by omega, by omega⟩ ⟨by omega, by omega⟩).mono (by rw [show ((k : Int) + 1).toNat = k + 1 by omega]; exact fun _ _ h => h))) | (go_at_call 127; exact past_same ((spec_l05Divide_any (flowAt xs k) (disc rate (k + 1)) 1000000000 _ ⟨by omega, by omega⟩ ⟨by omega, by omega⟩ ⟨by omega, by omega⟩).mono (by rw [HMd.out]; exact fun _ _ h => h))))))
      refine wpQuiet_nil ?_
      rintro _ ⟨y, rfl⟩
      have HY := Lib.hid (HBk.out.below' y.2)
      have e1 : y.1.frozen? ⟨w.heap.size, k, none⟩ = false := HY.out.frozen k
      have e2 : y.1.cell? ⟨w.heap.size, k, none⟩ = some (.int .i64 (flowAt xs k)) := Past.cell e0 y
      have hby : Below w.heap.size w y.1 := hb.trans (y.2.mono hb.size)
      go_wp2
      go_roundw
      case rel =>
        refine ⟨k + 1, by omega, by go_num, ?_, hby.setCell (Nat.le_refl _) _⟩
        have hh := HY.out.set_ k (.int .i64 (pvAt xs rate k))
        rwa [pvCells_step xs rate hlt] at hh
      case measure => simp [intOf]; omega
    · have hkn : k = 40 := by omega
      subst hkn
      go_wp2
      go_ret
      refine ⟨rfl, ?_, hb⟩
      have hh := HBk.out
      rwa [flowCells_congr (g := pvAt xs rate) (fun i hi => by rw [if_pos hi])] at hh

def bondsCode (xs : List Bond) (rate : Int) : Int := if bondsB xs = true then (if inR rate 0 200 = true then 0 else 2) else 1
def marketP (xs : List Bond) (rate : Int) : Int × Int := if bondsCode xs rate = 0 then ((pvL xs rate).sum, 0) else (0, bondsCode xs rate)
def wsum (vs : List Int) (k : Nat) : Int := ((List.range k).map fun (j : Nat) => ((j : Int) + 1) * vs.getD j 0).sum
def meanTermP (xs : List Bond) (rate : Int) : Int × Int × Int :=
  if bondsCode xs rate = 0 then (if (pvL xs rate).sum = 0 then (0, 0, 5) else ((lowP (wsum (pvL xs rate) 40) (pvL xs rate).sum).1, (lowP (wsum (pvL xs rate) 40) (pvL xs rate).sum).2, 0)) else (0, 0, bondsCode xs rate)
theorem bonds_ok {xs : List Bond} {rate : Int} (h : bondsCode xs rate = 0) : bondsB xs = true ∧ 0 ≤ rate ∧ rate ≤ 200 := by
  unfold bondsCode at h
  by_cases h1 : bondsB xs = true
  · rw [if_pos h1] at h
    by_cases h2 : inR rate 0 200 = true
    · exact ⟨h1, inR_true.1 h2⟩
    · rw [if_neg h2] at h; omega
  · rw [if_neg h1] at h; omega
theorem wsum_succ (vs : List Int) (k : Nat) : wsum vs (k + 1) = wsum vs k + ((k : Int) + 1) * vs.getD k 0 := by
  unfold wsum; rw [List.range_succ]; simp
theorem wsum_bound {vs : List Int} (h : ∀ v ∈ vs, 0 ≤ v ∧ v ≤ 36000000000) : ∀ k : Nat, k ≤ 40 → 0 ≤ wsum vs k ∧ wsum vs k ≤ 1440000000000 * (k : Int)
  | 0, _ => by simp [wsum]
  | k + 1, hk => by
    have h1 := wsum_bound h k (by omega)
    have h3 : 0 ≤ vs.getD k 0 ∧ vs.getD k 0 ≤ 36000000000 := by
      by_cases hk : k < vs.length
      · have : vs.getD k 0 = vs[k] := by simp [hk]
        rw [this]; exact h _ (List.getElem_mem hk)
      · have : vs.getD k 0 = 0 := by rw [List.getD_eq_getElem?_getD, List.getElem?_eq_none (by omega)]; rfl
        rw [this]; omega
    have h4 : 0 ≤ ((k : Int) + 1) * vs.getD k 0 := Int.mul_nonneg (by omega) h3.1
    have h5 : ((k : Int) + 1) * vs.getD k 0 ≤ 40 * 36000000000 := Int.mul_le_mul (by omega) h3.2 h3.1 (by omega)
    rw [wsum_succ]
    omega

theorem impl_checkBonds_any (A : Option Addr) (n cap : Nat) (xs : List Bond) (rate : Int) (w : World) (hl : xs.length = n) (hn : n ≤ 1048576) (hX : Rd w w.heap.size A 3 (bondRows xs)) (hf : ∀ x ∈ xs, x.fits) :
    Calls Try.prog 102 #[.slice A n cap, .int .i64 rate] w fun e w' => e = .returned (.int .i64 (bondsCode xs rate)) ∧ Below w.heap.size w w' := by
  have HX := Lib.hid hX; clear hX
  have HF := Lib.hid hf; clear hf
  have HL := Lib.hid hl; clear hl
  by_cases h1 : bondsB xs = true
  · cases h2 : inR rate 0 200
    · have Q := Lib.hid (show bondsCode xs rate = 2 by simp [bondsCode, h1, h2])
      go_enter Try.func102, Try.ntmps102
      go_wp2_with (first | (go_at_call 45; refine (impl_AreBonds_any A n cap xs _ HL.out hn HX.out HF.out).mono ?_; rintro e w1 ⟨rfl, hb1⟩) | (go_at_call 124; refine (impl_isRate_any _ _).mono ?_; rintro e w' ⟨rfl, rfl⟩))
      go_ret
      exact ⟨by rw [Q.out]; rfl, hb1⟩
    · have Q := Lib.hid (show bondsCode xs rate = 0 by simp [bondsCode, h1, h2])
      go_enter Try.func102, Try.ntmps102
      go_wp2_with (first | (go_at_call 45; refine (impl_AreBonds_any A n cap xs _ HL.out hn HX.out HF.out).mono ?_; rintro e w1 ⟨rfl, hb1⟩) | (go_at_call 124; refine (impl_isRate_any _ _).mono ?_; rintro e w' ⟨rfl, rfl⟩))
      go_ret
      exact ⟨by rw [Q.out]; rfl, hb1⟩
  · have h1' : bondsB xs = false := by simpa using h1
    have Q := Lib.hid (show bondsCode xs rate = 1 by simp [bondsCode, h1])
    clear h1
    go_enter Try.func102, Try.ntmps102
    go_wp2_with (first | (go_at_call 45; refine (impl_AreBonds_any A n cap xs _ HL.out hn HX.out HF.out).mono ?_; rintro e w1 ⟨rfl, hb1⟩))
    go_ret
    exact ⟨by rw [Q.out]; rfl, hb1⟩

set_option maxHeartbeats 1000000 in
theorem impl_MarketValue_any (A : Option Addr) (n cap : Nat) (xs : List Bond) (rate : Int) (w : World) (hl : xs.length = n) (hn : n ≤ 1048576) (hX : Rd w w.heap.size A 3 (bondRows xs)) (hf : ∀ x ∈ xs, x.fits) (_hr : In64 rate) :
    Calls Try.prog 47 #[.slice A n cap, .int .i64 rate] w fun e w' => e = .returned (.tuple #[.int .i64 (marketP xs rate).1, .int .i64 (marketP xs rate).2]) ∧ Below w.heap.size w w' := by
  have HX := Lib.hid hX; clear hX
  have HF := Lib.hid hf; clear hf
  have HL := Lib.hid hl; clear hl
  by_cases h : bondsCode xs rate = 0
  rotate_left
  · have Q := Lib.hid (show marketP xs rate = (0, bondsCode xs rate) by unfold marketP; rw [if_neg h])
    go_enter Try.func47, Try.ntmps47
    go_wp2_with (first | (go_at_call 102; refine (impl_checkBonds_any A n cap xs rate _ HL.out hn HX.out HF.out).mono ?_; rintro e w1 ⟨rfl, hb1⟩))
    go_ret2
    exact ⟨by rw [Q.out]; rfl, hb1⟩
  have Q := Lib.hid (show marketP xs rate = ((pvL xs rate).sum, 0) by unfold marketP; rw [if_pos h])
  have HN := Lib.hid (bonds_ok h)
  have hl30 : n ≤ 30 := by have := bonds_len HN.out.1; have := HL.out; omega
  have HS := Lib.hid (pvL_sums (bonds_len HN.out.1) (bonds_bond HN.out.1) HN.out.2.1)
  go_enter Try.func47, Try.ntmps47
  go_wp2_with (first | (go_at_call 102; refine (impl_checkBonds_any A n cap xs rate _ HL.out hn HX.out HF.out).mono ?_; rintro e w1 ⟨rfl, hb1⟩))
  refine (impl_presentValues_any A n cap xs rate _ HL.out hl30 (HX.out.past hb1) (bonds_bond HN.out.1) HN.out.2).mono ?_
  rintro e w2 ⟨A', c', rfl, hR, hb2⟩
  have HR := Lib.hid hR; clear hR
  have HB := Lib.hid (below_step hb1 hb2)
  clear hb1 hb2
  go_wp2_with (first | (go_at_call 103; refine (impl_total_any A' 40 c' (pvL xs rate) _ (pvL_length xs rate) (by omega) HR.out.rd HS.out.1).mono ?_; rintro e w' ⟨rfl, rfl⟩))
  go_ret2
  exact ⟨by rw [Q.out]; rfl, HB.out⟩

theorem rateCode (xs : List Bond) (rate : Int) : (if bondsB xs = true then (if inR rate 0 200 = true then (0 : Int) else 2) else 1) = bondsCode xs rate := rfl
theorem pv_rd {w : World} {g : Nat} {xs : List Bond} {rate : Int} (h : Blk w g 2 (flowCells (pvAt xs rate))) : Rd w w.heap.size (some ⟨g, 0, none⟩) 1 (intRows (pvL xs rate)) := by
  refine .inr ⟨_, rfl, h.lt, fun k r hr => ?_⟩
  have hk : k < 40 := by have := (List.getElem?_eq_some_iff.1 hr).1; rw [intRows_length, pvL_length] at this; exact this
  rw [intRows_get (pvL_get xs rate hk)] at hr
  injection hr with hr
  subst hr
  refine ⟨rfl, fun j v hv => ?_⟩
  have hj : j = 0 := by have := (List.getElem?_eq_some_iff.1 hv).1; simp at this; exact this
  subst hj
  rw [add_none, h.cell, Nat.zero_add, Nat.mul_one, Nat.add_zero, flowCells_get _ hk]
  simpa using hv

set_option maxHeartbeats 1000000 in
theorem spec_MarketValue_any (A : Option Addr) (n cap : Nat) (xs : List Bond) (rate : Int) (w : World) (hl : xs.length = n) (hn : n ≤ 1048576) (hX : Rd w w.heap.size A 3 (bondRows xs)) (hf : ∀ x ∈ xs, x.fits) (_hr : In64 rate) :
    Calls Try.prog 48 #[.slice A n cap, .int .i64 rate] w fun e w' => e = .returned (.tuple #[.int .i64 (marketP xs rate).1, .int .i64 (marketP xs rate).2]) ∧ Below w.heap.size w w' := by
  have HX := Lib.hid hX; clear hX
  have HF := Lib.hid hf; clear hf
  have HL := Lib.hid hl; clear hl
  by_cases h : bondsCode xs rate = 0
  rotate_left
  · have Q := Lib.hid (show marketP xs rate = (0, bondsCode xs rate) by unfold marketP; rw [if_neg h])
    go_enter Try.func48, Try.ntmps48
    go_wp2_with (first | (go_at_call 105; refine (spec_l04Rate_any _ _).mono ?_; rintro e w' ⟨rfl, rfl⟩) | (go_at_call 93; refine (spec_l20Code_any A n cap xs _ _ HL.out hn HX.out HF.out).mono ?_; rw [rateCode]; rintro e w1 ⟨rfl, hb1⟩))
    go_ret2
    exact ⟨by rw [Q.out]; rfl, hb1⟩
  have Q := Lib.hid (show marketP xs rate = ((pvL xs rate).sum, 0) by unfold marketP; rw [if_pos h])
  have HN := Lib.hid (bonds_ok h)
  have hl30 : n ≤ 30 := by have := bonds_len HN.out.1; have := HL.out; omega
  have HS := Lib.hid (pvL_sums (bonds_len HN.out.1) (bonds_bond HN.out.1) HN.out.2.1)
  go_enter Try.func48, Try.ntmps48
  go_wp2_with (first | (go_at_call 105; refine (spec_l04Rate_any _ _).mono ?_; rintro e w' ⟨rfl, rfl⟩) | (go_at_call 93; refine (spec_l20Code_any A n cap xs _ _ HL.out hn HX.out HF.out).mono ?_; rw [rateCode]; rintro e w1 ⟨rfl, hb1⟩))
  refine (spec_l20Values_any A n cap xs rate _ HL.out hl30 (HX.out.past hb1) (bonds_bond HN.out.1) HN.out.2).mono ?_
  rintro e w2 ⟨rfl, hR, hb2⟩
  have HR := Lib.hid (pv_rd hR); clear hR
  have HB := Lib.hid (below_step hb1 hb2)
  clear hb1 hb2
  go_wp2_with (first | (go_at_call 106; refine (spec_l01Sum_any _ 40 _ (pvL xs rate) _ (pvL_length xs rate) (by omega) HR.out HS.out.1).mono ?_; rintro e w' ⟨rfl, rfl⟩))
  go_ret2
  exact ⟨by rw [Q.out]; rfl, HB.out⟩

set_option maxHeartbeats 2000000 in
theorem impl_MeanTerm_any (A : Option Addr) (n cap : Nat) (xs : List Bond) (rate : Int) (w : World) (hl : xs.length = n) (hn : n ≤ 1048576) (hX : Rd w w.heap.size A 3 (bondRows xs)) (hf : ∀ x ∈ xs, x.fits) (_hr : In64 rate) :
    Calls Try.prog 49 #[.slice A n cap, .int .i64 rate] w fun e w' => e = .returned (.tuple #[.int .i64 (meanTermP xs rate).1, .int .i64 (meanTermP xs rate).2.1, .int .i64 (meanTermP xs rate).2.2]) ∧ Below w.heap.size w w' := by
  have HX := Lib.hid hX; clear hX
  have HF := Lib.hid hf; clear hf
  have HL := Lib.hid hl; clear hl
  by_cases h : bondsCode xs rate = 0
  rotate_left
  · have Q := Lib.hid (show meanTermP xs rate = (0, 0, bondsCode xs rate) by unfold meanTermP; rw [if_neg h])
    go_enter Try.func49, Try.ntmps49
    go_wp2_with (first | (go_at_call 102; refine (impl_checkBonds_any A n cap xs rate _ HL.out hn HX.out HF.out).mono ?_; rintro e w1 ⟨rfl, hb1⟩))
    go_ret3
    exact ⟨by rw [Q.out]; rfl, hb1⟩
  have HC := Lib.hid h
  have HN := Lib.hid (bonds_ok h)
  have hl30 : n ≤ 30 := by have := bonds_len HN.out.1; have := HL.out; omega
  have HS := Lib.hid (pvL_sums (bonds_len HN.out.1) (bonds_bond HN.out.1) HN.out.2.1)
  have HV := Lib.hid (pvL_bound (bonds_len HN.out.1) (bonds_bond HN.out.1) HN.out.2.1)
  have HWB := Lib.hid (wsum_bound HV.out)
  obtain ⟨s1, s2⟩ := HS.out.2
  go_enter Try.func49, Try.ntmps49
  go_wp2_with (first | (go_at_call 102; refine (impl_checkBonds_any A n cap xs rate _ HL.out hn HX.out HF.out).mono ?_; rintro e w1 ⟨rfl, hb1⟩))
  refine (impl_presentValues_any A n cap xs rate _ HL.out hl30 (HX.out.past hb1) (bonds_bond HN.out.1) HN.out.2).mono ?_
  rintro e w2 ⟨A', c', rfl, hR, hb2⟩
  have HR := Lib.hid hR.rd; clear hR
  have HB := Lib.hid (below_step hb1 hb2)
  clear hb1 hb2
  go_wp2_with (first | (go_at_call 103; refine (impl_total_any A' 40 c' (pvL xs rate) _ (pvL_length xs rate) (by omega) HR.out HS.out.1).mono ?_; rintro e w' ⟨rfl, rfl⟩))
  go_loop [9, 25] (fun s i => ∃ k : Nat, k ≤ 40 ∧ i = .int .i64 k ∧ s = .int .i64 (wsum (pvL xs rate) k)) (fun _ i => 40 - (intOf i).toNat)
  case atStart => exact ⟨0, by omega, rfl, rfl⟩
  case round =>
    obtain ⟨k, hk, rfl, rfl⟩ := hrel
    by_cases hlt : k < 40
    · obtain ⟨v, hv⟩ : ∃ v, (pvL xs rate)[k]? = some v := ⟨_, pvL_get xs rate hlt⟩
      obtain ⟨ad, had0, had, hc⟩ := HR.out.int_at hv
      obtain rfl := had0
      obtain ⟨v1, v2⟩ := HV.out v (List.mem_of_getElem? hv)
      have hwk := HWB.out k (by omega)
      obtain ⟨g1, g2⟩ := hwk
      have HE := Lib.hid (show wsum (pvL xs rate) (k + 1) = wsum (pvL xs rate) k + ((k : Int) + 1) * v by rw [wsum_succ]; simp [hv])
      have m1 : 0 ≤ ((k : Int) + 1) * v := Int.mul_nonneg (by omega) v1
      have m2 : ((k : Int) + 1) * v ≤ 40 * 36000000000 := Int.mul_le_mul (by omega) v2 v1 (by omega)
      clear hv
      go_wp2
      go_round
      case rel => exact ⟨k + 1, by omega, by go_num, by rw [HE.out]⟩
      case measure => simp [intOf]; omega
    · have hkn : k = 40 := by omega
      subst hkn
      have hwk := HWB.out 40 (by omega)
      obtain ⟨g1, g2⟩ := hwk
      by_cases h0 : (pvL xs rate).sum = 0
      · have Q := Lib.hid (show meanTermP xs rate = (0, 0, 5) by unfold meanTermP; rw [if_pos HC.out, if_pos h0])
        have H0 := Lib.hid h0
        clear s1 s2 h0
        go_wp2_with (first | (go_at_call 103; refine (impl_total_any A' 40 c' (pvL xs rate) _ (pvL_length xs rate) (by omega) HR.out HS.out.1).mono ?_; rw [H0.out]; rintro e w' ⟨rfl, rfl⟩))
        go_ret3
        exact ⟨by rw [Q.out]; rfl, HB.out⟩
      · have Q := Lib.hid (show meanTermP xs rate = ((lowP (wsum (pvL xs rate) 40) (pvL xs rate).sum).1, (lowP (wsum (pvL xs rate) 40) (pvL xs rate).sum).2, 0) by unfold meanTermP; rw [if_pos HC.out, if_neg h0])
        go_wp2_with (first | (go_at_call 103; refine (impl_total_any A' 40 c' (pvL xs rate) _ (pvL_length xs rate) (by omega) HR.out HS.out.1).mono ?_; rintro e w' ⟨rfl, rfl⟩) | (go_at_call 108; refine (impl_lowest_any (wsum (pvL xs rate) 40) (pvL xs rate).sum _ ⟨by omega, by omega⟩ ⟨by omega, by omega⟩).mono ?_; rintro e w9 ⟨rfl, hb9⟩))
        go_ret3
        exact ⟨by rw [Q.out]; rfl, HB.out.trans (hb9.mono HB.out.size)⟩

set_option maxHeartbeats 2000000 in
theorem spec_MeanTerm_any (A : Option Addr) (n cap : Nat) (xs : List Bond) (rate : Int) (w : World) (hl : xs.length = n) (hn : n ≤ 1048576) (hX : Rd w w.heap.size A 3 (bondRows xs)) (hf : ∀ x ∈ xs, x.fits) (_hr : In64 rate) :
    Calls Try.prog 50 #[.slice A n cap, .int .i64 rate] w fun e w' => e = .returned (.tuple #[.int .i64 (meanTermP xs rate).1, .int .i64 (meanTermP xs rate).2.1, .int .i64 (meanTermP xs rate).2.2]) ∧ Below w.heap.size w w' := by
  have HX := Lib.hid hX; clear hX
  have HF := Lib.hid hf; clear hf
  have HL := Lib.hid hl; clear hl
  by_cases h : bondsCode xs rate = 0
  rotate_left
  · have Q := Lib.hid (show meanTermP xs rate = (0, 0, bondsCode xs rate) by unfold meanTermP; rw [if_neg h])
    go_enter Try.func50, Try.ntmps50
    go_wp2_with (first | (go_at_call 105; refine (spec_l04Rate_any _ _).mono ?_; rintro e w' ⟨rfl, rfl⟩) | (go_at_call 93; refine (spec_l20Code_any A n cap xs _ _ HL.out hn HX.out HF.out).mono ?_; rw [rateCode]; rintro e w1 ⟨rfl, hb1⟩))
    go_ret3
    exact ⟨by rw [Q.out]; rfl, hb1⟩
  have HC := Lib.hid h
  have HN := Lib.hid (bonds_ok h)
  have hl30 : n ≤ 30 := by have := bonds_len HN.out.1; have := HL.out; omega
  have HS := Lib.hid (pvL_sums (bonds_len HN.out.1) (bonds_bond HN.out.1) HN.out.2.1)
  have HV := Lib.hid (pvL_bound (bonds_len HN.out.1) (bonds_bond HN.out.1) HN.out.2.1)
  have HWB := Lib.hid (wsum_bound HV.out)
  obtain ⟨s1, s2⟩ := HS.out.2
  go_enter Try.func50, Try.ntmps50
  go_wp2_with (first | (go_at_call 105; refine (spec_l04Rate_any _ _).mono ?_; rintro e w' ⟨rfl, rfl⟩) | (go_at_call 93; refine (spec_l20Code_any A n cap xs _ _ HL.out hn HX.out HF.out).mono ?_; rw [rateCode]; rintro e w1 ⟨rfl, hb1⟩))
  refine (spec_l20Values_any A n cap xs rate _ HL.out hl30 (HX.out.past hb1) (bonds_bond HN.out.1) HN.out.2).mono ?_
  rintro e w2 ⟨rfl, hR, hb2⟩
  have HR := Lib.hid (pv_rd hR); clear hR
  have HB := Lib.hid (below_step hb1 hb2)
  clear hb1 hb2
  go_wp2_with (first | (go_at_call 106; refine (spec_l01Sum_any _ 40 _ (pvL xs rate) _ (pvL_length xs rate) (by omega) HR.out HS.out.1).mono ?_; rintro e w' ⟨rfl, rfl⟩))
  go_loop [10, 11] (fun s i => ∃ k : Nat, k ≤ 40 ∧ i = .int .i64 k ∧ s = .int .i64 (wsum (pvL xs rate) k)) (fun _ i => 40 - (intOf i).toNat)
  case atStart => exact ⟨0, by omega, rfl, rfl⟩
  case round =>
    obtain ⟨k, hk, rfl, rfl⟩ := hrel
    by_cases hlt : k < 40
    · obtain ⟨v, hv⟩ : ∃ v, (pvL xs rate)[k]? = some v := ⟨_, pvL_get xs rate hlt⟩
      obtain ⟨ad, had0, had, hc⟩ := HR.out.int_at hv
      injection had0 with had0; subst had0; rw [add_none, Nat.zero_add] at hc
      obtain ⟨v1, v2⟩ := HV.out v (List.mem_of_getElem? hv)
      have hwk := HWB.out k (by omega)
      obtain ⟨g1, g2⟩ := hwk
      have HE := Lib.hid (show wsum (pvL xs rate) (k + 1) = wsum (pvL xs rate) k + ((k : Int) + 1) * v by rw [wsum_succ]; simp [hv])
      have m1 : 0 ≤ ((k : Int) + 1) * v := Int.mul_nonneg (by omega) v1
      have m2 : ((k : Int) + 1) * v ≤ 40 * 36000000000 := Int.mul_le_mul (by omega) v2 v1 (by omega)
      clear hv
      go_wp2
      go_round
      case rel => exact ⟨k + 1, by omega, by go_num, by rw [HE.out]⟩
      case measure => simp [intOf]; omega
    · have hkn : k = 40 := by omega
      subst hkn
      have hwk := HWB.out 40 (by omega)
      obtain ⟨g1, g2⟩ := hwk
      by_cases h0 : (pvL xs rate).sum = 0
      · have Q := Lib.hid (show meanTermP xs rate = (0, 0, 5) by unfold meanTermP; rw [if_pos HC.out, if_pos h0])
        go_wp2
        go_ret3
        exact ⟨by rw [Q.out]; rfl, HB.out⟩
      · have Q := Lib.hid (show meanTermP xs rate = ((lowP (wsum (pvL xs rate) 40) (pvL xs rate).sum).1, (lowP (wsum (pvL xs rate) 40) (pvL xs rate).sum).2, 0) by unfold meanTermP; rw [if_pos HC.out, if_neg h0])
        go_wp2_with (first | (go_at_call 106; refine (spec_l01Sum_any _ 40 _ (pvL xs rate) _ (pvL_length xs rate) (by omega) HR.out HS.out.1).mono ?_; rintro e w' ⟨rfl, rfl⟩) | (go_at_call 109; refine (spec_l03Fraction_any (wsum (pvL xs rate) 40) (pvL xs rate).sum _ ⟨by omega, by omega⟩ ⟨by omega, by omega⟩).mono ?_; rintro e w9 ⟨rfl, hb9⟩))
        go_ret3
        exact ⟨by rw [Q.out]; rfl, HB.out.trans (hb9.mono HB.out.size)⟩
end Go.Proofs.Ytoabhnobgdjgkaa
