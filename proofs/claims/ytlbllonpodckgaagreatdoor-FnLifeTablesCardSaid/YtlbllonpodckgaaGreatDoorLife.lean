/- Life tables: whether they are valid, their lives and ends: the program's and the reference's contracts. -/
import Derived.Test.YtlbllonpodckgaaGreatDoorLifeP
import Derived.Test.YtlbllonpodckgaaGreatDoorNum
import Derived.Test.YtlbllonpodckgaaGreatDoorList
import Derived.Test.YtlbllonpodckgaaGreatDoorBase2
namespace Go.Proofs.YtlbllonpodckgaaGreatDoor
open Go.RowKit Go.BigFrame

/-- part of a block as a struct's cells -/
theorem Blk.agg {w : World} {g : Nat} {t : TypeId} {cs : List Value} (h : Blk w g t cs.toArray) (o : Nat) (vs : List Value) (e : (cs.drop o).take vs.length = vs) :
    ∀ (j : Nat) (v : Value), vs[j]? = some v → w.cell? ((⟨g, o, none⟩ : Addr).add j) = some v := by
  intro j v hv
  rw [add_none, h.cell, List.getElem?_toArray]
  have hj := (List.getElem?_eq_some_iff.1 hv).1
  rw [← e, List.getElem?_take, if_pos hj, List.getElem?_drop] at hv
  exact hv
theorem Blk.agg_past {w : World} {g : Nat} {t : TypeId} {cs : List Value} (h : Blk w g t cs.toArray) (o : Nat) (vs : List Value) (e : (cs.drop o).take vs.length = vs) :
    ∀ w', (∃ y : Past w, w' = y.1) → ∀ (j : Nat) (v : Value), vs[j]? = some v → w'.cell? ((⟨g, o, none⟩ : Addr).add j) = some v := by
  rintro _ ⟨y, rfl⟩
  exact Blk.agg (h.below' y.2) o vs e
theorem intsLen_any (A : Option Addr) (n cap : Nat) (w : World) (_hn : n ≤ 1048576) :
    Calls Tryz.prog 95 #[.slice A n cap] w fun e w' => e = .returned (.int .i64 n) ∧ w = w' := by
  go_enter Tryz.func95, Tryz.ntmps95
  go_wp2
  go_ret
  exact ⟨rfl, rfl⟩

/-- a life table's lives lie in memory as told -/
structure LiesT (w : World) (A : Option Addr) (n : Nat) (xs : List Int) : Prop where
  len : xs.length = n
  small : n ≤ 1048576
  rd : Rd w w.heap.size A 1 (intRows xs)
  fits : ∀ x ∈ xs, In64 x
theorem LiesT.past {w w' : World} {A : Option Addr} {n : Nat} {xs : List Int} (h : LiesT w A n xs) (hb : Below w.heap.size w w') : LiesT w' A n xs := ⟨h.len, h.small, h.rd.past hb, h.fits⟩
theorem LiesT.at_ {w : World} {A : Option Addr} {n : Nat} {xs : List Int} (h : LiesT w A n xs) {k : Nat} (hk : k < n) : ∃ ad, A = some ad ∧ ad.block < w.heap.size ∧ w.cell? (ad.add k) = some (.int .i64 (lv xs k)) := h.rd.int_at (lv_some (by rw [h.len]; exact hk))
theorem lv_fits {xs : List Int} (h : ∀ x ∈ xs, In64 x) (k : Nat) : In64 (lv xs k) := by
  by_cases hk : k < xs.length
  · exact h _ (List.mem_of_getElem? (lv_some hk))
  · rw [lv_past (by omega)]; unfold In64; omega
theorem add_zero_at (a : Addr) : a.add 0 = a := by simp [Addr.add]
theorem all_range_stop {p : Nat → Bool} {m k : Nat} (hk : k < m) (h : p k = false) : (List.range m).all p = false := by
  rw [List.all_eq_false]; exact ⟨k, by simpa using hk, by simpa using h⟩

set_option maxHeartbeats 4000000 in
theorem impl_IsLifeTable_any (first : Int) (A : Option Addr) (n cap : Nat) (xs : List Int) (w : World) (hT : LiesT w A n xs) (hcap : n ≤ cap) (_hf : In64 first) :
    Calls Tryz.prog 54 #[.agg #[.int .i64 first, .slice A n cap]] w fun e w' => e = .returned (.bool (tableB first xs)) ∧ Below w.heap.size w w' := by
  have hbw : Below w.heap.size w (w.alloc (.cells #[.int .i64 first, .slice A n cap] 40)) := (Below.refl _ w).alloc (Nat.le_refl _) _
  have HT := Lib.hid (hT.past hbw); clear hT
  have hn := HT.out.small
  have HL := Lib.hid HT.out.len
  by_cases h1 : inR first 0 100 = true
  rotate_left
  · have Q := Lib.hid (show tableB first xs = false by simp [tableB, headB, h1])
    have h1' : inR first 0 100 = false := by simpa using h1
    clear h1
    go_enter Tryz.func54, Tryz.ntmps54
    go_wp2_with (first | (go_at_call 95; refine (intsLen_any A n cap _ hn).mono ?_; rintro e w' ⟨rfl, rfl⟩) | (go_at_call 94; refine (impl_inRange_any _ _ _ _).mono ?_; rintro e w' ⟨rfl, rfl⟩))
    go_ret
    exact ⟨by rw [Q.out]; rfl, hbw⟩
  by_cases h2 : inR n 2 120 = true
  rotate_left
  · have Q := Lib.hid (show tableB first xs = false by simp [tableB, headB, HL.out, h2])
    have h2' : inR n 2 120 = false := by simpa using h2
    clear h2
    go_enter Tryz.func54, Tryz.ntmps54
    go_wp2_with (first | (go_at_call 95; refine (intsLen_any A n cap _ hn).mono ?_; rintro e w' ⟨rfl, rfl⟩) | (go_at_call 94; refine (impl_inRange_any _ _ _ _).mono ?_; rintro e w' ⟨rfl, rfl⟩))
    go_ret
    exact ⟨by rw [Q.out]; rfl, hbw⟩
  obtain ⟨n1, n2⟩ := inR_true.1 h2
  obtain ⟨f1, f2⟩ := inR_true.1 h1
  obtain ⟨ad, rfl, had, hc0⟩ := HT.out.at_ (k := 0) (by omega)
  rw [add_zero_at] at hc0
  have hadb : ad.block < w.heap.size + 1 := by simpa using had
  by_cases h3 : lv xs 0 ≤ 1000000
  rotate_left
  · have Q := Lib.hid (show tableB first xs = false by simp [tableB, headB, h3])
    go_enter Tryz.func54, Tryz.ntmps54
    go_wp2_with (first | (go_at_call 95; refine (intsLen_any _ n cap _ hn).mono ?_; rintro e w' ⟨rfl, rfl⟩) | (go_at_call 94; refine (impl_inRange_any _ _ _ _).mono ?_; rintro e w' ⟨rfl, rfl⟩))
    go_ret
    exact ⟨by rw [Q.out]; rfl, hbw⟩
  obtain ⟨m, hm⟩ : ∃ m : Nat, n = m + 1 := ⟨n - 1, by omega⟩
  have hmi : (n : Int) - 1 = (m : Int) := by omega
  have HM := Lib.hid hm; clear hm
  have hmn : m < n := by have := HM.out; omega
  obtain ⟨ad', had', had2, hcm⟩ := HT.out.at_ (k := m) hmn
  injection had' with had'; subst had'
  by_cases h4 : lv xs m = 0
  rotate_left
  · have Q := Lib.hid (show tableB first xs = false by simp [tableB, headB, HL.out, show n - 1 = m by have := HM.out; omega, h4])
    go_enter Tryz.func54, Tryz.ntmps54
    go_wp2_with (first | (go_at_call 95; refine (intsLen_any _ n cap _ hn).mono ?_; rintro e w' ⟨rfl, rfl⟩) | (go_at_call 94; refine (impl_inRange_any _ _ _ _).mono ?_; rintro e w' ⟨rfl, rfl⟩))
    go_ret
    exact ⟨by rw [Q.out]; rfl, hbw⟩
  have H4 := Lib.hid h4
  rw [h4] at hcm
  clear h4
  by_cases h5 : first + (n : Int) - 1 ≤ 150
  rotate_left
  · have Q := Lib.hid (show tableB first xs = false by simp [tableB, headB, HL.out, h5])
    go_enter Tryz.func54, Tryz.ntmps54
    go_wp2_with (first | (go_at_call 95; refine (intsLen_any _ n cap _ hn).mono ?_; rintro e w' ⟨rfl, rfl⟩) | (go_at_call 94; refine (impl_inRange_any _ _ _ _).mono ?_; rintro e w' ⟨rfl, rfl⟩))
    go_ret
    exact ⟨by rw [Q.out]; rfl, hbw⟩
  have Q := Lib.hid (show tableB first xs = (List.range m).all (rowB xs) by
    have e : headB first xs = true := by simp [headB, HL.out, h1, h2, h3, h5, show n - 1 = m by have := HM.out; omega, H4.out]
    rw [tableB, e, HL.out, show n - 1 = m by have := HM.out; omega, Bool.true_and])
  go_enter Tryz.func54, Tryz.ntmps54
  go_wp2_with (first | (go_at_call 95; refine (intsLen_any _ n cap _ hn).mono ?_; rintro e w' ⟨rfl, rfl⟩) | (go_at_call 94; refine (impl_inRange_any _ _ _ _).mono ?_; rintro e w' ⟨rfl, rfl⟩))
  go_loop [48] (fun i => ∃ k : Nat, k ≤ m ∧ i = .int .i64 k ∧ (List.range k).all (rowB xs) = true) (fun i => m - (intOf i).toNat)
  case atStart => exact ⟨0, by omega, rfl, rfl⟩
  case round =>
    obtain ⟨k, hk, rfl, hall⟩ := hrel
    have HA := Lib.hid hall; clear hall
    by_cases hlt : k < m
    rotate_left
    · have hkm : k = m := by omega
      subst hkm
      go_wp2
      go_ret
      exact ⟨by rw [Q.out, HA.out]; rfl, hbw⟩
    obtain ⟨ad1, had1, _, hck⟩ := HT.out.at_ (k := k) (by omega)
    injection had1 with had1; subst had1
    have hlk := lv_fits HT.out.fits k
    obtain ⟨g1, g2⟩ := hlk
    have hkm2 : (k : Int) < (m : Int) := by omega
    by_cases hp : 1 ≤ lv xs k
    rotate_left
    · have hr : rowB xs k = false := by simp [rowB, hp]
      have HR := Lib.hid hr; clear hr
      go_wp2
      go_ret
      exact ⟨by rw [Q.out, all_range_stop hlt HR.out]; rfl, hbw⟩
    cases k with
    | zero =>
      have hr : rowB xs 0 = true := by simp [rowB, hp]
      have HR := Lib.hid hr; clear hr
      rw [add_zero_at] at hck
      go_wp2
      go_round
      case rel => exact ⟨1, by omega, by go_num, by rw [List.range_succ, List.all_append, HA.out]; simp [HR.out]⟩
      case measure => simp [intOf]; omega
    | succ k =>
      obtain ⟨ad2, had2', _, hcp⟩ := HT.out.at_ (k := k) (by omega)
      injection had2' with had2'; subst had2'
      have ek : (((k + 1 : Nat) : Int) - 1) = (k : Int) := by omega
      rw [show ad.add (k + 1) = ⟨ad.block, ad.off + (k + 1), none⟩ from by simp [Addr.add]] at hck
      by_cases hq : lv xs (k + 1) ≤ lv xs k
      · have hr : rowB xs (k + 1) = true := by simp [rowB, hp, hq]
        have HR := Lib.hid hr; clear hr
        go_wp2
        go_round
        case rel => exact ⟨k + 2, by omega, by go_num, by rw [List.range_succ, List.all_append, HA.out]; simp [HR.out]⟩
        case measure => simp [intOf]; omega
      · have hr : rowB xs (k + 1) = false := by simp [rowB, hq]
        have HR := Lib.hid hr; clear hr
        go_wp2
        go_ret
        exact ⟨by rw [Q.out, all_range_stop hlt HR.out]; rfl, hbw⟩
end Go.Proofs.YtlbllonpodckgaaGreatDoor
