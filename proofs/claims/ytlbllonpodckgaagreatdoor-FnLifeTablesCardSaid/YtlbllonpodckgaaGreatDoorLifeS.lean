/- Life tables: whether they are valid: the reference's contract. -/
import Derived.Test.YtlbllonpodckgaaGreatDoorLife
namespace Go.Proofs.YtlbllonpodckgaaGreatDoor
open Go.RowKit Go.BigFrame
theorem table_no {first : Int} {xs : List Int} (h : TabOk first xs → False) : tableB first xs = false := by
  cases e : tableB first xs
  · rfl
  · exact (h (table_ok e)).elim
theorem table_yes {first : Int} {xs : List Int} {n : Nat} (hl : xs.length = n) (h1 : inR first 0 100 = true) (h2 : 2 ≤ n ∧ n ≤ 120) (h3 : 1 ≤ lv xs 0 ∧ lv xs 0 ≤ 1000000) (h4 : lv xs (n - 1) = 0) (h5 : first + (n : Int) - 1 ≤ 150)
    (h6 : ∀ i : Nat, 1 ≤ i → i < n → lv xs i ≤ lv xs (i - 1) ∧ (i + 1 < n → 1 ≤ lv xs i)) : tableB first xs = true := by
  have e : headB first xs = true := by
    have : inR (n : Int) 2 120 = true := inR_true.2 (by omega)
    simp [headB, hl, h1, this, h3, h4, h5]
  rw [tableB, e, Bool.true_and, List.all_eq_true]
  intro i hi
  rw [hl] at hi
  have hi' : i < n - 1 := by simpa using hi
  by_cases h0 : i = 0
  · subst h0; simp [rowB, h3]
  · have := h6 i (by omega) (by omega)
    simp only [rowB, Bool.and_eq_true, Bool.or_eq_true, decide_eq_true_eq]
    exact ⟨this.2 (by omega), .inr this.1⟩

set_option maxHeartbeats 4000000 in
theorem spec_IsLifeTable_any (first : Int) (A : Option Addr) (n cap : Nat) (xs : List Int) (w : World) (hT : LiesT w A n xs) (_hcap : n ≤ cap) (_hf : In64 first) :
    Calls Tryz.prog 114 #[.agg #[.int .i64 first, .slice A n cap]] w fun e w' => e = .returned (.bool (tableB first xs)) ∧ Below w.heap.size w w' := by
  have hbw : Below w.heap.size w (w.alloc (.cells #[.int .i64 first, .slice A n cap] 40)) := (Below.refl _ w).alloc (Nat.le_refl _) _
  have HT := Lib.hid (hT.past hbw); clear hT
  have HB := Lib.hid (Blk.new w 40 #[.int .i64 first, .slice A n cap])
  have hn := HT.out.small
  have HL := Lib.hid HT.out.len
  by_cases h2 : 2 ≤ n
  rotate_left
  · have Q := Lib.hid (show tableB first xs = false from table_no fun T => by have := T.len0; have := HL.out; omega)
    go_enter Tryz.func114, Tryz.ntmps114
    go_wp2_with (first | (go_at_call 121; refine (spec_l01In_any _ _ _ _).mono ?_; rintro e w' ⟨rfl, rfl⟩))
    go_ret
    exact ⟨by rw [Q.out]; rfl, hbw⟩
  by_cases h2' : n ≤ 120
  rotate_left
  · have Q := Lib.hid (show tableB first xs = false from table_no fun T => by have := T.len1; have := HL.out; omega)
    go_enter Tryz.func114, Tryz.ntmps114
    go_wp2_with (first | (go_at_call 121; refine (spec_l01In_any _ _ _ _).mono ?_; rintro e w' ⟨rfl, rfl⟩))
    go_ret
    exact ⟨by rw [Q.out]; rfl, hbw⟩
  by_cases h1 : inR first 0 100 = true
  rotate_left
  · have h1' : inR first 0 100 = false := by simpa using h1
    have Q := Lib.hid (show tableB first xs = false from table_no fun T => by have := inR_mk (hi := 100) ⟨T.first0, T.first1⟩; rw [h1'] at this; cases this)
    clear h1
    go_enter Tryz.func114, Tryz.ntmps114
    go_wp2_with (first | (go_at_call 121; refine (spec_l01In_any _ _ _ _).mono ?_; rintro e w' ⟨rfl, rfl⟩))
    go_ret
    exact ⟨by rw [Q.out]; rfl, hbw⟩
  obtain ⟨f1, f2⟩ := inR_true.1 h1
  obtain ⟨ad, rfl, had, hc0⟩ := HT.out.at_ (k := 0) (by omega)
  rw [add_zero_at] at hc0
  have hadb : ad.block < w.heap.size + 1 := by simpa using had
  by_cases h3 : inR (lv xs 0) 1 1000000 = true
  rotate_left
  · have h3' : inR (lv xs 0) 1 1000000 = false := by simpa using h3
    have Q := Lib.hid (show tableB first xs = false from table_no fun T => by have := inR_mk (hi := 1000000) ⟨T.pos 0 (by have := HL.out; omega), T.most 0⟩; rw [h3'] at this; cases this)
    clear h3
    go_enter Tryz.func114, Tryz.ntmps114
    go_wp2_with (first | (go_at_call 121; refine (spec_l01In_any _ _ _ _).mono ?_; rintro e w' ⟨rfl, rfl⟩))
    go_ret
    exact ⟨by rw [Q.out]; rfl, hbw⟩
  obtain ⟨m, hm⟩ : ∃ m : Nat, n = m + 1 := ⟨n - 1, by omega⟩
  have hmi : (n : Int) - 1 = (m : Int) := by omega
  have HM := Lib.hid hm; clear hm
  have hmn : m < n := by have := HM.out; omega
  obtain ⟨ad', had', had2, hcm⟩ := HT.out.at_ (k := m) hmn
  injection had' with had'; subst had'
  by_cases h4 : lv xs m = 0
  rotate_left
  · have Q := Lib.hid (show tableB first xs = false from table_no fun T => h4 (T.zero m (by have := HL.out; have := HM.out; omega)))
    go_enter Tryz.func114, Tryz.ntmps114
    go_wp2_with (first | (go_at_call 121; refine (spec_l01In_any _ _ _ _).mono ?_; rintro e w' ⟨rfl, rfl⟩))
    go_ret
    exact ⟨by rw [Q.out]; rfl, hbw⟩
  have H4 := Lib.hid h4
  rw [h4] at hcm
  clear h4
  by_cases h5 : first + (n : Int) - 1 ≤ 150
  rotate_left
  · have Q := Lib.hid (show tableB first xs = false from table_no fun T => h5 (by have := T.top; rw [HL.out] at this; exact this))
    go_enter Tryz.func114, Tryz.ntmps114
    go_wp2_with (first | (go_at_call 121; refine (spec_l01In_any _ _ _ _).mono ?_; rintro e w' ⟨rfl, rfl⟩))
    go_ret
    exact ⟨by rw [Q.out]; rfl, hbw⟩
  have QY := Lib.hid (fun h6 => table_yes (first := first) HL.out h1 ⟨h2, h2'⟩ (inR_true.1 h3) (by rw [show n - 1 = m by have := HM.out; omega]; exact H4.out) h5 h6)
  go_enter Tryz.func114, Tryz.ntmps114
  go_wp2_with (first | (go_at_call 121; refine (spec_l01In_any _ _ _ _).mono ?_; rintro e w' ⟨rfl, rfl⟩))
  go_loopw [4] (fun i wr => ∃ k : Nat, 1 ≤ k ∧ k ≤ n ∧ i = .int .i64 k ∧ Hid (∀ i : Nat, 1 ≤ i → i < k → lv xs i ≤ lv xs (i - 1) ∧ (i + 1 < n → 1 ≤ lv xs i)) ∧ Below (w.heap.size + 1) (w.alloc (.cells #[.int .i64 first, .slice (some ad) n cap] 40)) wr) (fun i _ => n - (intOf i).toNat)
  case atStart => exact ⟨1, by omega, by omega, rfl, Lib.hid (fun i h h' => by omega), Below.refl _ _⟩
  case round =>
    obtain ⟨k, hk1, hk, rfl, HA, hb⟩ := hrel
    have hbb : Below w.heap.size w wr := hbw.trans (hb.mono (by omega))
    have b0 : wr.cell? ⟨w.heap.size, 0, none⟩ = some (.int .i64 first) := (HB.out.below hb (by omega)).cell 0
    have b1 : wr.cell? ⟨w.heap.size, 1, none⟩ = some (.slice (some ad) n cap) := (HB.out.below hb (by omega)).cell 1
    by_cases hlt : k < n
    rotate_left
    · have hkn : k = n := by omega
      subst hkn
      have Q := Lib.hid (QY.out HA.out)
      go_wp2
      go_ret
      exact ⟨by rw [Q.out]; rfl, hbb⟩
    obtain ⟨p, hp⟩ : ∃ p, k = p + 1 := ⟨k - 1, by omega⟩
    subst hp
    obtain ⟨ad1, had1, _, hck⟩ := HT.out.at_ (k := p + 1) hlt
    injection had1 with had1; subst had1
    obtain ⟨ad2, had2', _, hcp⟩ := HT.out.at_ (k := p) (by omega)
    injection had2' with had2'; subst had2'
    have hck2 := (hb.cell (p := ad.add (p + 1)) (by rw [block_of_add]; omega)).trans hck
    have hcp2 := (hb.cell (p := ad.add p) (by rw [block_of_add]; omega)).trans hcp
    rw [show ad.add (p + 1) = ⟨ad.block, ad.off + (p + 1), none⟩ from by simp [Addr.add]] at hck2
    clear hck hcp
    have d0 := fun y : Past wr => Past.cell b1 y
    have d1 := fun y : Past wr => Past.cell hck2 y
    have d2 := fun y : Past wr => Past.cell hcp2 y
    have hpi : ((p : Int) + 1 - 1) = (p : Int) := by omega
    by_cases ha : lv xs (p + 1) ≤ lv xs p
    rotate_left
    · have Q := Lib.hid (show tableB first xs = false from table_no fun T => ha (T.anti p))
      have hd : decide (lv xs p < lv xs (p + 1)) = true := by simp; omega
      go_wp2
      refine wp_region_past (by kernel_rfl) (by kernel_rfl) ?_
      repeat (go_big_quiet_step (fail))
      refine wpQuiet_nil ?_
      rintro _ ⟨y, rfl⟩
      go_wp2
      go_ret
      exact ⟨by rw [Q.out]; rfl, hbb.trans (y.2.mono hbb.size)⟩
    have hd : decide (lv xs p < lv xs (p + 1)) = false := by simp; omega
    by_cases hb1 : p + 1 < m
    · have he : decide (p + 1 < m) = true := by simp; omega
      have he2 : decide ((p : Int) + 1 < (m : Int)) = true := by simp; omega
      by_cases hc : 1 ≤ lv xs (p + 1)
      · have hf2 : decide (lv xs (p + 1) < 1) = false := by simp; omega
        go_wp2
        refine wp_region_past (by kernel_rfl) (by kernel_rfl) ?_
        repeat (go_big_quiet_step (fail))
        refine wpQuiet_nil ?_
        rintro _ ⟨y, rfl⟩
        go_wp2
        go_roundw
        case rel => exact ⟨p + 2, by omega, by omega, by go_num, Lib.hid (fun i h h' => by
          by_cases e : i = p + 1
          · subst e; exact ⟨ha, fun _ => hc⟩
          · exact HA.out i h (by omega)), hb.trans (y.2.mono (by have := hb.size; simp at this; omega))⟩
        case measure => simp [intOf]; omega
      · have Q := Lib.hid (show tableB first xs = false from table_no fun T => hc (T.pos (p + 1) (by have := HL.out; have := HM.out; omega)))
        have hf2 : decide (lv xs (p + 1) < 1) = true := by simp; omega
        go_wp2
        refine wp_region_past (by kernel_rfl) (by kernel_rfl) ?_
        repeat (go_big_quiet_step (fail))
        refine wpQuiet_nil ?_
        rintro _ ⟨y, rfl⟩
        go_wp2
        go_ret
        exact ⟨by rw [Q.out]; rfl, hbb.trans (y.2.mono hbb.size)⟩
    · have he : decide (p + 1 < m) = false := by simp; omega
      have he2 : decide ((p : Int) + 1 < (m : Int)) = false := by simp; omega
      go_wp2
      refine wp_region_past (by kernel_rfl) (by kernel_rfl) ?_
      repeat (go_big_quiet_step (fail))
      refine wpQuiet_nil ?_
      rintro _ ⟨y, rfl⟩
      go_wp2
      go_roundw
      case rel => exact ⟨p + 2, by omega, by omega, by go_num, Lib.hid (fun i h h' => by
          by_cases e : i = p + 1
          · subst e; exact ⟨ha, fun h9 => by have := HM.out; omega⟩
          · exact HA.out i h (by omega)), hb.trans (y.2.mono (by have := hb.size; simp at this; omega))⟩
      case measure => simp [intOf]; omega
end Go.Proofs.YtlbllonpodckgaaGreatDoor
