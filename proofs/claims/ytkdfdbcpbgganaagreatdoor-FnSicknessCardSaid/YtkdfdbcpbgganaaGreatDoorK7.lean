/- Parts of a proof, one after another: TabW, Sick1, Sick2, StPolicy, StHolding, PolP, DivP. No condition. -/
import Derived.Test.YtkdfdbcpbgganaaGreatDoorK1
import Derived.Test.YtkdfdbcpbgganaaGreatDoorK2
import Derived.Test.YtkdfdbcpbgganaaGreatDoorK6
import Derived.IntWalk
import Derived.Laws.MathBits
import Derived.Lib.BitFns
import Derived.Laws.Bits64b
import Derived.Lib.ItoaNum
/- Life tables are written: joined, TableText of the program; l01Number, l01Join, TableText of the reference. -/
section
namespace Go.Proofs.YtkdfdbcpbgganaaGreatDoor
open Go.RowKit Go.BigFrame

def textP (f : Int) (xs : List Int) : List UInt8 := if tableB f xs = true then numsL (f :: xs) else []
theorem cap_of {w : World} {B t sz n cap : Nat} {A : Option Addr} {rows : List (List Value)} (h : Res B w t sz A n cap rows) : n ≤ cap := by
  rcases h.own.2 with ⟨h1, h2⟩ | ⟨g, c, cur, e, _, _, hnc, _⟩
  · simp only [Value.slice.injEq] at h1; omega
  · simp only [Value.slice.injEq] at e; omega
theorem words_of {w : World} {B n cap : Nat} {A : Option Addr} {ws : List (List UInt8)} (h : Res B w 9 1 A n cap (strRows ws)) (hn : 0 < n) : ∃ g, A = some ⟨g, 0, none⟩ ∧ B ≤ g ∧ g < w.heap.size ∧ ∀ k p, ws[k]? = some p → w.cell? ⟨g, k, none⟩ = some (.string (S p)) := by
  obtain ⟨g, cs, rfl, hB, hblk, _, hcs⟩ := h.at_ hn
  have hl : ws.length = n := by have := h.len; simpa [strRows] using this
  refine ⟨g, rfl, hB, hblk.lt, fun k p hp => ?_⟩
  have hk := (List.getElem?_eq_some_iff.1 hp).1
  have hfl : (strRows ws).flatten = ws.map fun p => Value.string (S p) := by
    unfold strRows
    clear h hcs hl hp hk hblk
    induction ws with
    | nil => rfl
    | cons x r ih => simp [ih]
  rw [hblk.cell, hcs k (by omega), hfl, List.getElem?_map, hp]; rfl
theorem Past.tab {w : World} (h : Tab w) (x : Past w) : Tab x.1 := h.past x.2
theorem nums_take {xs : List Int} {k : Nat} {x : Int} (h : xs[k]? = some x) (hk : 0 < k) : numsL (xs.take (k + 1)) = numsL (xs.take k) ++ [32] ++ decL x := by
  rw [List.take_add_one, h, Option.toList_some]
  refine nums_snoc ?_
  intro h0
  have h1 := congrArg List.length h0
  have h2 := (List.getElem?_eq_some_iff.1 h).1
  rw [List.length_take] at h1
  simp only [List.length_nil] at h1
  omega
theorem nums_take0 {xs : List Int} {x : Int} (h : xs[0]? = some x) : numsL (xs.take 1) = decL x := by
  rw [List.take_add_one, h, Option.toList_some]
  exact nums_one x
theorem table_bounds {f : Int} {xs : List Int} (h : tableB f xs = true) : (0 ≤ f ∧ f ≤ 100) ∧ (2 ≤ xs.length ∧ xs.length ≤ 120) ∧ ∀ x ∈ xs, 0 ≤ x ∧ x ≤ 1000000 := by
  have T := table_ok h
  refine ⟨⟨T.first0, T.first1⟩, ⟨T.len0, T.len1⟩, fun x hx => ?_⟩
  obtain ⟨k, hk⟩ := List.mem_iff_getElem?.1 hx
  rw [← lv_get hk]
  exact ⟨T.nonneg k, T.most k⟩
theorem nums_size {xs : List Int} (hn : xs.length ≤ 130) (hb : ∀ x ∈ xs, 0 ≤ x ∧ x ≤ 1000000) (k : Nat) : (S (numsL (xs.take k))).size ≤ 3000 := by
  rw [S_size]
  have h1 := nums_len (xs.take k) (fun n hx => by have := hb n (List.mem_of_mem_take hx); omega)
  rw [List.length_take] at h1
  omega

set_option maxHeartbeats 4000000 in
theorem impl_joined_any (A : Option Addr) (n cap : Nat) (xs : List Int) (w : World) (hl : xs.length = n) (hn : 1 ≤ n ∧ n ≤ 130) (hX : Rd w w.heap.size A 1 (intRows xs)) (hb : ∀ x ∈ xs, 0 ≤ x ∧ x ≤ 1000000) (hT : Tab w) :
    Calls Tryz.prog 42 #[.slice A n cap] w fun e w' => e = .returned (.string (S (numsL xs))) ∧ Below w.heap.size w w' := by
  obtain ⟨i0, hi0, hj0, hj1, hj2⟩ := info_parts strInf
  have HI := Lib.hid (And.intro hi0 (And.intro hj0 (And.intro hj1 hj2))); clear hi0 hj0 hj1 hj2
  have HL := Lib.hid hl; clear hl
  have HX := Lib.hid hX; clear hX
  have HBD := Lib.hid hb; clear hb
  have HTab := Lib.hid hT; clear hT
  obtain ⟨n0, n1⟩ := hn
  have HR0 := Lib.hid (show Res w.heap.size (w.alloc (.cells #[] 9)) 9 1 (some ⟨w.heap.size, 0, none⟩) 0 0 (strRows []) from Res.zero w w.heap.size 9 1 (Nat.le_refl _))
  have HW0 := Lib.hid ((Below.refl w.heap.size w).alloc (Nat.le_refl _) (.cells #[] 9))
  go_enter Tryz.func42, Tryz.ntmps42
  go_wp2
  go_loopw [3, 9] (fun o i wr => ∃ (k c9 : Nat) (B : Option Addr), k ≤ n ∧ i = .int .i64 k ∧ o = .slice B k c9 ∧ Hid (Res w.heap.size wr 9 1 B k c9 (strRows ((xs.take k).map decL))) ∧ Hid (Below w.heap.size w wr)) (fun _ i _ => n - (intOf i).toNat)
  case atStart => exact ⟨0, 0, _, by omega, rfl, rfl, HR0, HW0⟩
  case round =>
    obtain ⟨k, cB, B, hk, rfl, rfl, HR, HB⟩ := hrel
    clear HR0 HW0
    by_cases hlt : k < n
    · obtain ⟨x, hx⟩ := get_of_lt (xs := xs) (k := k) (by rw [HL.out]; exact hlt)
      obtain ⟨x0, x1⟩ := HBD.out x (List.mem_of_getElem? hx)
      have hki : (k : Int) < (n : Int) := by omega
      obtain ⟨ad, rfl, had, hcl⟩ := (HX.out.past HB.out).int_at hx
      have HTK := Lib.hid (show (xs.take (k + 1)).map decL = (xs.take k).map decL ++ [decL x] by rw [List.take_add_one, hx]; simp)
      clear hx
      go_wp2_with fail
      refine (impl_decimal_any x (by unfold In64; omega) wr (HTab.out.past HB.out)).mono ?_
      rw [itoa_pos x0]
      rintro e w2 ⟨rfl, hb2⟩
      have HB2 := Lib.hid (HB.out.trans (hb2.mono HB.out.size))
      have HR2 := Lib.hid (HR.out.past hb2)
      clear hb2 HB HR
      have hbsz := HB2.out.size
      go_wp2_with (at_builtin; refine wpList_append_row_at _ rfl _ _ _ rfl w.heap.size 9 i0 _ 1 16 Tryz.underlying72 HI.out.1 HI.out.2.1 HI.out.2.2.1 HI.out.2.2.2 rfl (by decide) (by decide) B k cB _ rfl HR2.out [.string (S (decL x))] _ rfl rfl (by simp [Value.oneCell']) (by omega) hbsz ?_; intro A9 c9 w9 hR9 hb9 _ _)
      rw [← strRows_snoc, ← HTK.out] at hR9
      have HR9 := Lib.hid hR9
      have HB9 := Lib.hid (HB2.out.trans hb9)
      clear hR9 hb9
      go_wp2
      go_roundw
      case rel => exact ⟨k + 1, c9, A9, by omega, by go_num, rfl, HR9, HB9⟩
      case measure => simp [intOf]; omega
    · have hkn : k = n := by omega
      subst hkn
      have hxt : xs.take k = xs := List.take_of_length_le (by rw [HL.out]; exact Nat.le_refl _)
      rw [hxt] at HR
      clear hxt
      obtain ⟨g, rfl, hg0, hg1, hcw⟩ := words_of HR.out (by omega)
      have hLl : ((xs.map decL).map S).length = k := by rw [List.length_map, List.length_map, HL.out]
      have hjl : Lib.join (((xs.map decL).map S).map (·.data.toList)) (⟨#[32]⟩ : ByteArray).data.toList = numsL xs := by
        unfold numsL
        congr 1
        rw [List.map_map]
        conv => rhs; rw [← List.map_id (xs.map decL)]
        exact List.map_congr_left (fun p _ => S_list p)
      have hnl := nums_size (xs := xs) (by rw [HL.out]; omega) HBD.out xs.length
      rw [List.take_length, S_size] at hnl
      have HJ := Lib.hid (Tryz.strings_Join g 0 cB ((xs.map decL).map S) ⟨#[32]⟩ wr (fun j y hy => by
        rw [List.getElem?_map] at hy
        cases hp : (xs.map decL)[j]? with
        | none => rw [hp] at hy; cases hy
        | some p =>
          rw [hp] at hy
          injection hy with hy
          rw [Nat.zero_add, ← hy]
          exact hcw j p hp) hg1 (by rw [hLl]; omega) (by rw [hLl]; exact cap_of HR.out) (by rw [hjl]; omega))
      rw [hjl, hLl] at HJ
      clear hjl hnl hcw hLl
      go_wp2_with fail
      refine HJ.out.mono ?_
      rintro e w2 ⟨rfl, hb2⟩
      have HB2 := Lib.hid (HB.out.trans (hb2.mono HB.out.size))
      go_wp2
      go_ret
      exact ⟨rfl, HB2.out⟩

theorem spec_l01Number_any (x : Int) (w : World) (h0 : 0 ≤ x) (h1 : x ≤ 1000000000000000) :
    Calls Tryz.prog 82 #[.int .i64 x] w fun e w' => e = .returned (.string (S (decL x))) ∧ Below w.heap.size w w' := by
  go_enter Tryz.func82, Tryz.ntmps82
  go_wp2_with fail
  refine (spec_l01Dec_int x h0 (by omega) w).mono ?_
  rintro e w1 ⟨rfl, hb1⟩
  go_wp2
  go_ret
  exact ⟨rfl, hb1⟩
set_option maxHeartbeats 4000000 in
theorem spec_l01Join_any (A : Option Addr) (n cap : Nat) (xs : List Int) (w : World) (hl : xs.length = n) (hn : 1 ≤ n ∧ n ≤ 130) (hX : Rd w w.heap.size A 1 (intRows xs)) (hb : ∀ x ∈ xs, 0 ≤ x ∧ x ≤ 1000000) :
    Calls Tryz.prog 48 #[.slice A n cap, .string ⟨#[32]⟩] w fun e w' => e = .returned (.string (S (numsL xs))) ∧ Below w.heap.size w w' := by
  have HL := Lib.hid hl; clear hl
  have HX := Lib.hid hX; clear hX
  have HBD := Lib.hid hb; clear hb
  obtain ⟨n0, n1⟩ := hn
  have HSZ := Lib.hid (fun k => nums_size (xs := xs) (by rw [HL.out]; omega) HBD.out k)
  go_enter Tryz.func48, Tryz.ntmps48
  go_wp2
  go_loopw [5, 6] (fun o i wr => ∃ k : Nat, k ≤ n ∧ i = .int .i64 k ∧ o = .string (S (numsL (xs.take k))) ∧ Hid (Below w.heap.size w wr)) (fun _ i _ => n - (intOf i).toNat)
  case atStart => exact ⟨0, by omega, rfl, rfl, Lib.hid (Below.refl _ _)⟩
  case round =>
    obtain ⟨k, hk, rfl, rfl, HB⟩ := hrel
    by_cases hlt : k < n
    · obtain ⟨x, hx⟩ := get_of_lt (xs := xs) (k := k) (by rw [HL.out]; exact hlt)
      obtain ⟨x0, x1⟩ := HBD.out x (List.mem_of_getElem? hx)
      have hki : (k : Int) < (n : Int) := by omega
      obtain ⟨ad, rfl, had, hcl⟩ := (HX.out.past HB.out).int_at hx
      have hz := HSZ.out k
      have hzx : (S (decL x)).size ≤ 17 := decS_len (by omega)
      have HNB := Lib.hid (fun X => spec_l01Number_any x X x0 (by omega))
      rcases Nat.eq_zero_or_pos k with hk0 | hk0
      · subst hk0
        have HQ := Lib.hid (show S (numsL (xs.take (0 + 1))) = S (numsL (xs.take 0)) ++ S (decL x) from by
          rw [nums_take0 hx, S_append]; rfl)
        generalize S (numsL (xs.take 0)) = OUT at hz HQ ⊢
        generalize S (decL x) = DX at hzx HQ HNB
        change Hid _ at HQ
        change Hid _ at HNB
        have u1 : ¬ 9223372036854775807 < OUT.size + DX.size := by omega
        have hc0 : wr.cell? ad = some (.int .i64 x) := by have := hcl; rwa [Addr.add_zero'] at this
        clear hx
        go_wp2_with fail
        refine (HNB.out _).mono ?_
        rintro e w2 ⟨rfl, hb2⟩
        have HB2 := Lib.hid (HB.out.trans (hb2.mono HB.out.size))
        go_wp2
        go_roundw
        case rel => exact ⟨0 + 1, by omega, by go_num, by rw [HQ.out], HB2⟩
        case measure => simp [intOf]; omega
      · have HQ := Lib.hid (show S (numsL (xs.take (k + 1))) = S (numsL (xs.take k)) ++ (⟨#[32]⟩ : ByteArray) ++ S (decL x) from by
          rw [nums_take hx hk0, ← S_append, ← S_append]; rfl)
        generalize S (numsL (xs.take k)) = OUT at hz HQ ⊢
        generalize S (decL x) = DX at hzx HQ HNB
        change Hid _ at HQ
        change Hid _ at HNB
        have hk0i : (0 : Int) < (k : Int) := by omega
        have u1 : ¬ 9223372036854775807 < OUT.size + 1 := by omega
        have u2 : ¬ 9223372036854775807 < OUT.size + 1 + DX.size := by omega
        clear hx
        go_wp2_with fail
        refine (HNB.out _).mono ?_
        rintro e w2 ⟨rfl, hb2⟩
        have HB2 := Lib.hid (HB.out.trans (hb2.mono HB.out.size))
        go_wp2
        go_roundw
        case rel => exact ⟨k + 1, by omega, by go_num, by rw [HQ.out], HB2⟩
        case measure => simp [intOf]; omega
    · have hkn : k = n := by omega
      subst hkn
      have hxt : xs.take k = xs := List.take_of_length_le (by rw [HL.out]; exact Nat.le_refl _)
      rw [hxt]
      go_wp2
      go_ret
      exact ⟨rfl, HB.out⟩
end Go.Proofs.YtkdfdbcpbgganaaGreatDoor
end

/- Sickness tables: IsSickTable of the program and of the reference. -/
section
namespace Go.Proofs.YtkdfdbcpbgganaaGreatDoor
open Go.RowKit Go.BigFrame

def sickB (f : Int) (xs : List Int) : Bool := inR f 0 100 && (inR xs.length 1 120 && allR xs 0 52000)
set_option maxHeartbeats 1000000 in
theorem impl_IsSickTable_any (f : Int) (A : Option Addr) (n cap : Nat) (xs : List Int) (w : World) (hT : LiesT w A n xs) :
    Calls Tryz.prog 17 #[.agg #[.int .i64 f, .slice A n cap]] w fun e w' => e = .returned (.bool (sickB f xs)) ∧ Below w.heap.size w w' := by
  have hbw : Below w.heap.size w (w.alloc (.cells #[.int .i64 f, .slice A n cap] 28)) := (Below.refl _ w).alloc (Nat.le_refl _) _
  have HT := Lib.hid (hT.past hbw); clear hT
  have hn := HT.out.small
  have HL := Lib.hid HT.out.len
  cases h1 : inR f 0 100
  · have Q := Lib.hid (show sickB f xs = false by unfold sickB; rw [h1]; rfl)
    go_enter Tryz.func17, Tryz.ntmps17
    go_wp2_with (first | (go_at_call 50; refine (impl_inRange_any _ _ _ _).mono ?_; rintro e w' ⟨rfl, rfl⟩))
    go_ret
    exact ⟨by rw [Q.out]; rfl, hbw⟩
  cases h2 : inR (n : Int) 1 120
  · have Q := Lib.hid (show sickB f xs = false by unfold sickB; rw [h1, HL.out, h2]; rfl)
    go_enter Tryz.func17, Tryz.ntmps17
    go_wp2_with (first | (go_at_call 50; refine (impl_inRange_any _ _ _ _).mono ?_; rintro e w' ⟨rfl, rfl⟩) | (go_at_call 51; refine (intsLen_any A n cap _ hn).mono ?_; rintro e w' ⟨rfl, rfl⟩))
    go_ret
    exact ⟨by rw [Q.out]; rfl, hbw⟩
  · have Q := Lib.hid (show sickB f xs = allR xs 0 52000 by unfold sickB; rw [h1, HL.out, h2]; rfl)
    go_enter Tryz.func17, Tryz.ntmps17
    go_wp2_with (first | (go_at_call 50; refine (impl_inRange_any _ _ _ _).mono ?_; rintro e w' ⟨rfl, rfl⟩) | (go_at_call 51; refine (intsLen_any A n cap _ hn).mono ?_; rintro e w' ⟨rfl, rfl⟩) | (go_at_call 52; refine (impl_allIn_any A n cap xs 0 52000 _ HL.out hn HT.out.rd).mono ?_; rintro e w' ⟨rfl, hb⟩))
    go_ret
    exact ⟨by rw [Q.out]; rfl, hbw.trans (hb.mono (by simp))⟩
set_option maxHeartbeats 1000000 in
theorem spec_IsSickTable_any (f : Int) (A : Option Addr) (n cap : Nat) (xs : List Int) (w : World) (hT : LiesT w A n xs) :
    Calls Tryz.prog 47 #[.agg #[.int .i64 f, .slice A n cap]] w fun e w' => e = .returned (.bool (sickB f xs)) ∧ Below w.heap.size w w' := by
  have hbw : Below w.heap.size w (w.alloc (.cells #[.int .i64 f, .slice A n cap] 28)) := (Below.refl _ w).alloc (Nat.le_refl _) _
  have HT := Lib.hid (hT.past hbw); clear hT
  have hn := HT.out.small
  have HL := Lib.hid HT.out.len
  cases h1 : inR f 0 100
  · have Q := Lib.hid (show sickB f xs = false by unfold sickB; rw [h1]; rfl)
    go_enter Tryz.func47, Tryz.ntmps47
    go_wp2_with (first | (go_at_call 72; refine (spec_l01In_any _ _ _ _).mono ?_; rintro e w' ⟨rfl, rfl⟩))
    go_ret
    exact ⟨by rw [Q.out]; rfl, hbw⟩
  by_cases h0 : n < 1
  · have h0i : ¬ (1 : Int) ≤ (n : Int) := by omega
    have Q := Lib.hid (show sickB f xs = false by
      have h2 : inR (xs.length : Int) 1 120 = false := by
        cases h : inR (xs.length : Int) 1 120
        · rfl
        · have h3 := inR_true.1 h; have h4 := HL.out; omega
      unfold sickB; rw [h1, h2]; rfl)
    go_enter Tryz.func47, Tryz.ntmps47
    go_wp2_with (first | (go_at_call 72; refine (spec_l01In_any _ _ _ _).mono ?_; rintro e w' ⟨rfl, rfl⟩))
    go_ret
    exact ⟨by rw [Q.out]; rfl, hbw⟩
  · have h0i : (1 : Int) ≤ (n : Int) := by omega
    have Q := Lib.hid (show sickB f xs = (allR xs 0 52000 && decide ((n : Int) ≤ 120)) by
      unfold sickB
      rw [h1, HL.out]
      cases h : inR (n : Int) 1 120
      · have h5 : decide ((n : Int) ≤ 120) = false := by
          rw [decide_eq_false_iff_not]
          intro h6
          have h7 := inR_true.2 (show (1 : Int) ≤ n ∧ (n : Int) ≤ 120 from ⟨by omega, h6⟩)
          rw [h] at h7; cases h7
        rw [h5]; simp
      · have h5 := (inR_true.1 h).2
        rw [decide_eq_true h5]; simp)
    go_enter Tryz.func47, Tryz.ntmps47
    go_wp2_with (first | (go_at_call 72; refine (spec_l01In_any _ _ _ _).mono ?_; rintro e w' ⟨rfl, rfl⟩) | (go_at_call 63; refine (spec_l01Within_any A n cap xs 120 0 52000 _ HL.out hn HT.out.rd).mono ?_; rintro e w' ⟨rfl, rfl⟩))
    go_ret
    exact ⟨by rw [Q.out]; rfl, hbw⟩
end Go.Proofs.YtkdfdbcpbgganaaGreatDoor
end

/- Sickness tables: the weeks at an age. -/
section
namespace Go.Proofs.YtkdfdbcpbgganaaGreatDoor
open Go.RowKit Go.BigFrame

def weeksP (f : Int) (xs : List Int) (age : Int) : Int := if f ≤ age then lv xs (age - f).toNat else 0
set_option maxHeartbeats 1000000 in
theorem spec_l09Weeks_any (f : Int) (A : Option Addr) (n cap : Nat) (xs : List Int) (age : Int) (w : World) (hT : LiesT w A n xs) (hf : 0 ≤ f ∧ f ≤ 100) (ha : 0 ≤ age ∧ age ≤ 1000) :
    Calls Tryz.prog 73 #[.agg #[.int .i64 f, .slice A n cap], .int .i64 age] w fun e w' => e = .returned (.int .i64 (weeksP f xs age)) ∧ Below w.heap.size w w' := by
  have hbw : Below w.heap.size w (w.alloc (.cells #[.int .i64 f, .slice A n cap] 28)) := (Below.refl _ w).alloc (Nat.le_refl _) _
  have HT := Lib.hid (hT.past hbw); clear hT
  have hn := HT.out.small
  have HL := Lib.hid HT.out.len
  obtain ⟨f0, f1⟩ := hf
  obtain ⟨a0, a1⟩ := ha
  cases h : inR (age - f) 0 ((n : Int) - 1)
  · have Q := Lib.hid (show weeksP f xs age = 0 by
      unfold weeksP
      split
      · rw [lv_past]
        rw [HL.out]
        rcases Nat.lt_or_ge (age - f).toNat n with h1 | h1
        · have h2 := inR_true.2 (show (0 : Int) ≤ age - f ∧ age - f ≤ (n : Int) - 1 from ⟨by omega, by omega⟩)
          rw [h] at h2; cases h2
        · exact h1
      · rfl)
    go_enter Tryz.func73, Tryz.ntmps73
    go_wp2_with (first | (go_at_call 72; refine (spec_l01In_any _ _ _ _).mono ?_; rintro e w' ⟨rfl, rfl⟩))
    go_ret
    exact ⟨by rw [Q.out]; rfl, hbw⟩
  · obtain ⟨h1, h2⟩ := inR_true.1 h
    obtain ⟨k, hk⟩ := Int.eq_ofNat_of_zero_le h1
    have Q := Lib.hid (show weeksP f xs age = lv xs k by unfold weeksP; rw [if_pos (by omega), show (age - f).toNat = k by omega])
    obtain ⟨ad, rfl, had, hck⟩ := HT.out.at_ (k := k) (by omega)
    have hkn : (k : Int) < (n : Int) := by omega
    have h3 : inR (k : Int) 0 ((n : Int) - 1) = true := inR_true.2 ⟨by omega, by omega⟩
    go_enter Tryz.func73, Tryz.ntmps73
    go_wp2_with (first | (go_at_call 72; refine (spec_l01In_any _ _ _ _).mono ?_; rintro e w' ⟨rfl, rfl⟩))
    go_ret
    exact ⟨by rw [Q.out]; rfl, hbw⟩
end Go.Proofs.YtkdfdbcpbgganaaGreatDoor
end

/- The helper functions of the laws for Policy: a copy, a comparison, marks. Each contract holds for every argument of the stated shape. -/
section
namespace Go.Proofs.YtkdfdbcpbgganaaGreatDoor
open Go.RowKit Go.Deep

structure Policy where
  kind : Int
  age : Int
  years : Int
  sum : Int
  load : Int
def Policy.row (r : Policy) : List Value := [.int .i64 r.kind, .int .i64 r.age, .int .i64 r.years, .int .i64 r.sum, .int .i64 r.load]
def policyRows (xs : List Policy) : List (List Value) := xs.map Policy.row
theorem policyRows_get {xs : List Policy} {k : Nat} {x : Policy} (h : xs[k]? = some x) : (policyRows xs)[k]? = some x.row := by simp [policyRows, h]
theorem policyRows_length (xs : List Policy) : (policyRows xs).length = xs.length := by simp [policyRows]
theorem policyRows_all (xs : List Policy) : ∀ r ∈ policyRows xs, r.length = 5 := by
  intro r hr; obtain ⟨x, _, rfl⟩ := List.mem_map.1 hr; rfl
theorem Policy.oneCell (x : Policy) : ∀ v ∈ x.row, v.oneCell' = true := by simp [Policy.row, Value.oneCell']
theorem Policy.info : (Tryz.prog.info? 42).map (fun i => (i.zero, i.size, i.bytes)) = some (some (.agg #[.int .i64 0, .int .i64 0, .int .i64 0, .int .i64 0, .int .i64 0]), 5, 40) := by kernel_rfl
theorem Policy.size : (Tryz.prog.info? 42).map (·.size) = some 5 := by kernel_rfl
theorem Policy.cells {x : Policy} {w : World} {p : Addr} (hc : ∀ (j : Nat) (v : Value), x.row[j]? = some v → w.cell? (p.add j) = some v) : w.cell? p = some (.int .i64 x.kind) ∧ w.cell? ⟨p.block, p.off + 1, none⟩ = some (.int .i64 x.age) ∧ w.cell? ⟨p.block, p.off + 2, none⟩ = some (.int .i64 x.years) ∧ w.cell? ⟨p.block, p.off + 3, none⟩ = some (.int .i64 x.sum) ∧ w.cell? ⟨p.block, p.off + 4, none⟩ = some (.int .i64 x.load) := by
  refine ⟨by have := hc 0 _ rfl; rwa [Addr.add_zero'] at this, hc 1 _ rfl, hc 2 _ rfl, hc 3 _ rfl, hc 4 _ rfl⟩
def Policy.fits (x : Policy) : Prop := In64 x.kind ∧ In64 x.age ∧ In64 x.years ∧ In64 x.sum ∧ In64 x.load
theorem Policy.of_nums : ∀ (rows : List (List Int)), (∀ r ∈ rows, r.length = 5 ∧ ∀ z ∈ r, In64 z) → ∃ xs : List Policy, xs.length = rows.length ∧ policyRows xs = numRows rows ∧ ∀ x ∈ xs, x.fits
  | [], _ => ⟨[], rfl, rfl, by simp⟩
  | q :: rest, h => by
    obtain ⟨xs, hl, hr, hf⟩ := Policy.of_nums rest fun r hr => h r (by simp [hr])
    obtain ⟨hq, hz⟩ := h q (by simp)
    match q, hq with
    | [z0, z1, z2, z3, z4], _ =>
      refine ⟨⟨z0, z1, z2, z3, z4⟩ :: xs, by simp [hl], by rw [policyRows, List.map_cons, numRows, List.map_cons, ← numRows, ← hr]; rfl, fun x hx => ?_⟩
      rcases List.mem_cons.1 hx with rfl | hx
      · exact ⟨hz z0 (by simp), hz z1 (by simp), hz z2 (by simp), hz z3 (by simp), hz z4 (by simp)⟩
      · exact hf x hx
theorem Policy.of_num {zs : List Int} (hl : zs.length = 5) (hz : ∀ z ∈ zs, In64 z) : ∃ x : Policy, (zs.map (Value.int .i64)).toArray = x.row.toArray ∧ x.fits := by
  match zs, hl with
  | [z0, z1, z2, z3, z4], _ => exact ⟨⟨z0, z1, z2, z3, z4⟩, rfl, hz z0 (by simp), hz z1 (by simp), hz z2 (by simp), hz z3 (by simp), hz z4 (by simp)⟩









end Go.Proofs.YtkdfdbcpbgganaaGreatDoor
end

/- The helper functions of the laws for Holding: a copy, a comparison, marks. Each contract holds for every argument of the stated shape. -/
section
namespace Go.Proofs.YtkdfdbcpbgganaaGreatDoor
open Go.RowKit Go.Deep

structure Holding where
  kind : Int
  age : Int
  years : Int
  sum : Int
  load : Int
  year : Int
  count : Int
def Holding.row (r : Holding) : List Value := [.int .i64 r.kind, .int .i64 r.age, .int .i64 r.years, .int .i64 r.sum, .int .i64 r.load, .int .i64 r.year, .int .i64 r.count]
def holdingRows (xs : List Holding) : List (List Value) := xs.map Holding.row
theorem holdingRows_get {xs : List Holding} {k : Nat} {x : Holding} (h : xs[k]? = some x) : (holdingRows xs)[k]? = some x.row := by simp [holdingRows, h]
theorem holdingRows_length (xs : List Holding) : (holdingRows xs).length = xs.length := by simp [holdingRows]
theorem holdingRows_all (xs : List Holding) : ∀ r ∈ holdingRows xs, r.length = 7 := by
  intro r hr; obtain ⟨x, _, rfl⟩ := List.mem_map.1 hr; rfl
theorem Holding.oneCell (x : Holding) : ∀ v ∈ x.row, v.oneCell' = true := by simp [Holding.row, Value.oneCell']
theorem Holding.cells {x : Holding} {w : World} {p : Addr} (hc : ∀ (j : Nat) (v : Value), x.row[j]? = some v → w.cell? (p.add j) = some v) : w.cell? p = some (.int .i64 x.kind) ∧ w.cell? ⟨p.block, p.off + 1, none⟩ = some (.int .i64 x.age) ∧ w.cell? ⟨p.block, p.off + 2, none⟩ = some (.int .i64 x.years) ∧ w.cell? ⟨p.block, p.off + 3, none⟩ = some (.int .i64 x.sum) ∧ w.cell? ⟨p.block, p.off + 4, none⟩ = some (.int .i64 x.load) ∧ w.cell? ⟨p.block, p.off + 5, none⟩ = some (.int .i64 x.year) ∧ w.cell? ⟨p.block, p.off + 6, none⟩ = some (.int .i64 x.count) := by
  refine ⟨by have := hc 0 _ rfl; rwa [Addr.add_zero'] at this, hc 1 _ rfl, hc 2 _ rfl, hc 3 _ rfl, hc 4 _ rfl, hc 5 _ rfl, hc 6 _ rfl⟩
def Holding.fits (x : Holding) : Prop := In64 x.kind ∧ In64 x.age ∧ In64 x.years ∧ In64 x.sum ∧ In64 x.load ∧ In64 x.year ∧ In64 x.count
theorem Holding.of_nums : ∀ (rows : List (List Int)), (∀ r ∈ rows, r.length = 7 ∧ ∀ z ∈ r, In64 z) → ∃ xs : List Holding, xs.length = rows.length ∧ holdingRows xs = numRows rows ∧ ∀ x ∈ xs, x.fits
  | [], _ => ⟨[], rfl, rfl, by simp⟩
  | q :: rest, h => by
    obtain ⟨xs, hl, hr, hf⟩ := Holding.of_nums rest fun r hr => h r (by simp [hr])
    obtain ⟨hq, hz⟩ := h q (by simp)
    match q, hq with
    | [z0, z1, z2, z3, z4, z5, z6], _ =>
      refine ⟨⟨z0, z1, z2, z3, z4, z5, z6⟩ :: xs, by simp [hl], by rw [holdingRows, List.map_cons, numRows, List.map_cons, ← numRows, ← hr]; rfl, fun x hx => ?_⟩
      rcases List.mem_cons.1 hx with rfl | hx
      · exact ⟨hz z0 (by simp), hz z1 (by simp), hz z2 (by simp), hz z3 (by simp), hz z4 (by simp), hz z5 (by simp), hz z6 (by simp)⟩
      · exact hf x hx
theorem Holding.of_num {zs : List Int} (hl : zs.length = 7) (hz : ∀ z ∈ zs, In64 z) : ∃ x : Holding, (zs.map (Value.int .i64)).toArray = x.row.toArray ∧ x.fits := by
  match zs, hl with
  | [z0, z1, z2, z3, z4, z5, z6], _ => exact ⟨⟨z0, z1, z2, z3, z4, z5, z6⟩, rfl, hz z0 (by simp), hz z1 (by simp), hz z2 (by simp), hz z3 (by simp), hz z4 (by simp), hz z5 (by simp), hz z6 (by simp)⟩









end Go.Proofs.YtkdfdbcpbgganaaGreatDoor
end

/- Policies, their premiums and reserves: plain functions and their laws. No program. -/
section
namespace Go.Proofs.YtkdfdbcpbgganaaGreatDoor
open Go.RowKit Go.BigFrame

structure Bas where
  first : Int
  lives : List Int
  rate : Int
def basisB (b : Bas) : Bool := tableB b.first b.lives && inR b.rate 0 200
def Bas.ix (b : Bas) (age : Int) : Nat := (age - b.first).toNat
def Bas.d (b : Bas) (age : Int) : Int := dC b.lives b.rate (b.ix age)
def Bas.top (b : Bas) (kind age n : Int) : Int := topF b.lives b.rate kind (b.ix age) n.toNat
def Bas.base (b : Bas) (kind age n : Int) : Int := baseF b.lives b.rate kind (b.ix age) n.toNat
def Bas.last (b : Bas) : Int := b.first + (b.lives.length : Int) - 1
/-- the arguments of an assurance, but for the table -/
def assurB (b : Bas) (kind age n sum : Int) : Bool :=
  inR kind 0 3 && (inR b.rate 0 200 && (inR age b.first 150 && (inR sum 1 100000000 && (inR n 0 120 && (decide (age + n ≤ 150) && (decide (n = 0) == decide (kind = 0)))))))
def bandB (b : Bas) (age n : Int) : Bool := (List.range (max 1 n).toNat).all fun i => decide (b.d (age + i) ≠ 0)
def polB (b : Bas) (p : Policy) : Bool := basisB b && (assurB b p.kind p.age p.years p.sum && (inR p.load 0 1000 && bandB b p.age p.years))
def durP (b : Bas) (p : Policy) : Int := if p.kind = 0 then b.last - p.age else p.years
def resCode (b : Bas) (p : Policy) (k : Int) : Int := if polB b p = true then (if inR k 0 (durP b p - 1) = true then (if b.d (p.age + k) = 0 then 5 else 0) else 2) else 1
/-- a * b / c rounded up -/
def upP (a b c : Int) : Int := a * b / c + (if 0 < a * b % c then 1 else 0)
def netP (b : Bas) (p : Policy) : Int := upP p.sum (b.top p.kind p.age p.years) (b.base p.kind p.age p.years)
def officeP (b : Bas) (p : Policy) : Int := netP b p + ceilDiv (netP b p * p.load) 1000
def leftP (p : Policy) (k : Int) : Int := if p.kind = 0 then 0 else p.years - k
def fwdP (s t n v d : Int) : Int × Int := ((s * t - n * v) / d, (s * t - n * v) % d)
def roundP (x : Int × Int) : Int := max 0 (x.1 + (if 0 < x.2 then 1 else 0))
def partT (b : Bas) (p : Policy) (k : Int) : Int := b.top p.kind (p.age + k) (leftP p k)
def partB (b : Bas) (p : Policy) (k : Int) : Int := b.base p.kind (p.age + k) (leftP p k)
def partD (b : Bas) (p : Policy) (k : Int) : Int := b.d (p.age + k)
def resAt (b : Bas) (p : Policy) (k : Int) : Int := roundP (fwdP p.sum (partT b p k) (netP b p) (partB b p k) (partD b p k))

structure BasOk (b : Bas) : Prop where
  tab : TabOk b.first b.lives
  rate0 : 0 ≤ b.rate
  rate1 : b.rate ≤ 200
theorem basis_ok {b : Bas} (h : basisB b = true) : BasOk b := by
  simp only [basisB, Bool.and_eq_true, inR_true] at h
  exact ⟨table_ok h.1, h.2.1, h.2.2⟩
structure PolOk (b : Bas) (p : Policy) : Prop extends BasOk b where
  kind0 : 0 ≤ p.kind
  kind1 : p.kind ≤ 3
  age0 : b.first ≤ p.age
  age1 : p.age ≤ 150
  sum0 : 1 ≤ p.sum
  sum1 : p.sum ≤ 100000000
  yrs0 : 0 ≤ p.years
  yrs1 : p.years ≤ 120
  end1 : p.age + p.years ≤ 150
  zero : p.years = 0 ↔ p.kind = 0
  load0 : 0 ≤ p.load
  load1 : p.load ≤ 1000
  band : ∀ i : Nat, (i : Int) < max 1 p.years → b.d (p.age + i) ≠ 0
theorem pol_ok {b : Bas} {p : Policy} (h : polB b p = true) : PolOk b p := by
  simp only [polB, assurB, bandB, Bool.and_eq_true, inR_true, decide_eq_true_eq, List.all_eq_true, List.mem_range, beq_iff_eq, decide_eq_decide] at h
  obtain ⟨h1, ⟨⟨k0, k1⟩, _, ⟨a0, a1⟩, ⟨s0, s1⟩, ⟨y0, y1⟩, e1, z⟩, ⟨l0, l1⟩, hb⟩ := h
  exact { toBasOk := basis_ok h1, kind0 := k0, kind1 := k1, age0 := a0, age1 := a1, sum0 := s0, sum1 := s1, yrs0 := y0, yrs1 := y1, end1 := e1, zero := z, load0 := l0, load1 := l1, band := fun i hi => hb i (by omega) }
section
variable {b : Bas} (B : BasOk b)
include B
theorem d_bound (age : Int) : 0 ≤ b.d age ∧ b.d age ≤ 1000000000000000 := dC_bound B.tab B.rate0 _
theorem top_bound (kind age n : Int) : 0 ≤ b.top kind age n ∧ b.top kind age n ≤ b.d age := topF_bound B.tab B.rate0 _ _ _
theorem base_bound (kind age n : Int) (hn : n ≤ 120) : 0 ≤ b.base kind age n ∧ b.base kind age n ≤ 120 * b.d age := baseF_bound B.tab B.rate0 _ _ _ (by omega)
theorem base_pos (kind age n : Int) (h : kind = 0 ∨ 1 ≤ n) : b.d age ≤ b.base kind age n := baseF_pos B.tab B.rate0 _ _ _ (by rcases h with h | h; exact .inl h; exact .inr (by omega))
end
theorem mul_div_le {a x c m : Int} (ha : 0 ≤ a) (hx : 0 ≤ x) (hc : 1 ≤ c) (h : x ≤ m * c) : 0 ≤ a * x / c ∧ a * x / c ≤ a * m := by
  refine ⟨Int.ediv_nonneg (Int.mul_nonneg ha hx) (by omega), ?_⟩
  have h1 : a * x ≤ a * (m * c) := Int.mul_le_mul_of_nonneg_left h ha
  have h2 : a * x / c ≤ a * (m * c) / c := Int.ediv_le_ediv (by omega) h1
  rw [← Int.mul_assoc, Int.mul_ediv_cancel _ (by omega)] at h2
  exact h2
theorem up_le {a x c : Int} (ha : 0 ≤ a) (hx : 0 ≤ x) (hc : 1 ≤ c) (h : x ≤ c) : 0 ≤ upP a x c ∧ upP a x c ≤ a := by
  have h1 := mul_div_le (m := 1) ha hx hc (by omega)
  rw [Int.mul_one] at h1
  unfold upP
  split
  · rename_i hr
    have h2 := Int.mul_ediv_add_emod (a * x) c
    have h3 : a * x ≤ a * c := Int.mul_le_mul_of_nonneg_left h ha
    have h4 : a * x / c < a := by
      rcases Int.lt_or_le (a * x / c) a with h5 | h5
      · exact h5
      · have h6 : c * a ≤ c * (a * x / c) := Int.mul_le_mul_of_nonneg_left h5 (by omega)
        rw [Int.mul_comm c a] at h6
        omega
    omega
  · omega
theorem ceil_bound {x : Int} (h : 0 ≤ x) : 0 ≤ ceilDiv x 1000 ∧ ceilDiv x 1000 ≤ x := by unfold ceilDiv; omega
section
variable {b : Bas} {p : Policy} (P : PolOk b p)
include P
theorem d_age : 1 ≤ b.d p.age := by
  have h1 := P.band 0 (by omega)
  have h2 := d_bound P.toBasOk p.age
  simp only [Int.natCast_zero, Int.add_zero] at h1
  omega
theorem kind_or : p.kind = 0 ∨ 1 ≤ p.years := by
  have := P.zero; have := P.yrs0
  by_cases h : p.kind = 0
  · exact .inl h
  · exact .inr (by omega)
theorem net_base : 1 ≤ b.base p.kind p.age p.years := by
  have := base_pos P.toBasOk p.kind p.age p.years (kind_or P)
  have := d_age P
  omega
theorem net_bound : 0 ≤ netP b p ∧ netP b p ≤ 100000000 := by
  have h1 := top_bound P.toBasOk p.kind p.age p.years
  have h2 := base_pos P.toBasOk p.kind p.age p.years (kind_or P)
  have h3 := d_age P
  have h4 := up_le (a := p.sum) (x := b.top p.kind p.age p.years) (c := b.base p.kind p.age p.years) (by have := P.sum0; omega) h1.1 (by omega) (by omega)
  have := P.sum1
  unfold netP
  omega
theorem office_bound : 0 ≤ netP b p * p.load ∧ netP b p * p.load ≤ 100000000000 ∧ netP b p ≤ officeP b p ∧ officeP b p ≤ 200000000 := by
  have h1 := net_bound P
  have h2 : netP b p * p.load ≤ 100000000 * 1000 := Int.mul_le_mul h1.2 P.load1 P.load0 (by omega)
  have h3 := Int.mul_nonneg h1.1 P.load0
  unfold officeP ceilDiv
  omega
theorem dur_bound : durP b p ≤ 150 := by
  have := P.tab.top; have := P.age0; have := P.tab.first0; have := P.yrs1
  unfold durP Bas.last
  split <;> omega
theorem left_bound {k : Int} (hk : 0 ≤ k) : leftP p k ≤ 120 := by
  have := P.yrs1
  unfold leftP
  split <;> omega
end
/-- a year of a policy in which a reserve can be told -/
structure YearOk (b : Bas) (p : Policy) (k : Int) : Prop extends PolOk b p where
  k0 : 0 ≤ k
  k1 : k ≤ durP b p - 1
  d1 : 1 ≤ b.d (p.age + k)
theorem year_ok {b : Bas} {p : Policy} {k : Int} (h : resCode b p k = 0) : YearOk b p k := by
  unfold resCode at h
  by_cases h1 : polB b p = true
  · rw [if_pos h1] at h
    by_cases h2 : inR k 0 (durP b p - 1) = true
    · rw [if_pos h2] at h
      by_cases h3 : b.d (p.age + k) = 0
      · rw [if_pos h3] at h; omega
      · have h4 := inR_true.1 h2
        have h5 := d_bound (pol_ok h1).toBasOk (p.age + k)
        exact { toPolOk := pol_ok h1, k0 := h4.1, k1 := h4.2, d1 := by omega }
    · rw [if_neg h2] at h; omega
  · rw [if_neg h1] at h; omega
/-- the parts of a reserve, whatever the basis: sizes that fit -/
structure PartOk (s t n v d : Int) : Prop where
  s0 : 0 ≤ s
  s1 : s ≤ 100000000
  n0 : 0 ≤ n
  n1 : n ≤ 100000000
  t0 : 0 ≤ t
  t1 : t ≤ d
  v0 : 0 ≤ v
  v1 : v ≤ 120 * d
  d0 : 1 ≤ d
  d1 : d ≤ 1000000000000000
theorem part_ok {b : Bas} {p : Policy} {k n : Int} (Y : YearOk b p k) (hn : 0 ≤ n ∧ n ≤ 100000000) : PartOk p.sum (partT b p k) n (partB b p k) (partD b p k) := by
  have h1 := top_bound Y.toBasOk p.kind (p.age + k) (leftP p k)
  have h2 := base_bound Y.toBasOk p.kind (p.age + k) (leftP p k) (left_bound Y.toPolOk Y.k0)
  have h3 := d_bound Y.toBasOk (p.age + k)
  exact { s0 := by have := Y.sum0; omega, s1 := Y.sum1, n0 := hn.1, n1 := hn.2, t0 := h1.1, t1 := h1.2, v0 := h2.1, v1 := h2.2, d0 := Y.d1, d1 := h3.2 }
section
variable {s t n v d : Int} (K : PartOk s t n v d)
include K
theorem part_quo : (0 ≤ s * t / d ∧ s * t / d ≤ 100000000) ∧ (0 ≤ n * v / d ∧ n * v / d ≤ 12000000000) := by
  have h1 := mul_div_le (m := 1) K.s0 K.t0 K.d0 (by have := K.t1; omega)
  have h2 := mul_div_le (m := 120) K.n0 K.v0 K.d0 K.v1
  have := K.s1; have := K.n1
  omega
theorem part_rest : (0 ≤ s * t % d ∧ s * t % d < d) ∧ (0 ≤ n * v % d ∧ n * v % d < d) := by
  have h0 := K.d0
  exact ⟨⟨Int.emod_nonneg _ (by omega), Int.emod_lt_of_pos _ (by omega)⟩, ⟨Int.emod_nonneg _ (by omega), Int.emod_lt_of_pos _ (by omega)⟩⟩
/-- the program's way to the forward reserve -/
theorem fwd_low (h : s * t % d < n * v % d) : fwdP s t n v d = (s * t / d - n * v / d - 1, s * t % d - n * v % d + d) := by
  have h1 := Int.mul_ediv_add_emod (s * t) d
  have h2 := Int.mul_ediv_add_emod (n * v) d
  have h3 := part_rest K
  have e : s * t - n * v = (s * t % d - n * v % d + d) + d * (s * t / d - n * v / d - 1) := by rw [Int.mul_sub, Int.mul_sub]; omega
  unfold fwdP
  have h4 : s * t % d - n * v % d + d < d := by omega
  have h5 : 0 ≤ s * t % d - n * v % d + d := by omega
  rw [e, Int.add_mul_ediv_left _ _ (by have := K.d0; omega), Int.ediv_eq_zero_of_lt h5 h4, Int.add_mul_emod_self_left, Int.emod_eq_of_lt h5 h4, Int.zero_add]
theorem fwd_high (h : ¬ s * t % d < n * v % d) : fwdP s t n v d = (s * t / d - n * v / d, s * t % d - n * v % d) := by
  have h1 := Int.mul_ediv_add_emod (s * t) d
  have h2 := Int.mul_ediv_add_emod (n * v) d
  have h3 := part_rest K
  have e : s * t - n * v = (s * t % d - n * v % d) + d * (s * t / d - n * v / d) := by rw [Int.mul_sub]; omega
  unfold fwdP
  have h4 : s * t % d - n * v % d < d := by omega
  have h5 : 0 ≤ s * t % d - n * v % d := by omega
  rw [e, Int.add_mul_ediv_left _ _ (by have := K.d0; omega), Int.ediv_eq_zero_of_lt h5 h4, Int.add_mul_emod_self_left, Int.emod_eq_of_lt h5 h4, Int.zero_add]
theorem fwd_bound : (-12000000001 ≤ (fwdP s t n v d).1 ∧ (fwdP s t n v d).1 ≤ 100000000) ∧ (0 ≤ (fwdP s t n v d).2 ∧ (fwdP s t n v d).2 < d) := by
  have h1 := part_quo K
  have h2 := part_rest K
  have h0 := K.d0
  by_cases h : s * t % d < n * v % d
  · rw [fwd_low K h]; simp only; omega
  · rw [fwd_high K h]; simp only; omega
theorem round_bound : 0 ≤ roundP (fwdP s t n v d) ∧ roundP (fwdP s t n v d) ≤ 100000001 := by
  have h := fwd_bound K
  unfold roundP
  split <;> omega
end
theorem res_bound {b : Bas} {p : Policy} {k : Int} (Y : YearOk b p k) : 0 ≤ resAt b p k ∧ resAt b p k ≤ 100000001 := round_bound (part_ok Y (net_bound Y.toPolOk))
end Go.Proofs.YtkdfdbcpbgganaaGreatDoor
end

/- The arithmetic of a long division of two words by one: plain facts on numbers. No condition. -/
section
namespace Go.Proofs.YtkdfdbcpbgganaaGreatDoor
/-! ### a long division by two digits: one digit -/
theorem mul_le_left {a b c : Int} (h : a ≤ b) (hc : 0 ≤ c) : a * c ≤ b * c := Int.mul_le_mul_of_nonneg_right h hc
/-- the digit is too great -/
theorem digit_great {u d y1 y0 q r : Int} (h1 : q * y1 + r = u) (ht : 4294967296 ≤ q ∨ 4294967296 * r + d < q * y0) (hu : u < y1 * 4294967296 + y0) (hd : 0 ≤ d ∧ d < 4294967296) (hy1 : 0 ≤ y1) (hy0 : 0 ≤ y0) :
    4294967296 * u + d < q * y1 * 4294967296 + q * y0 := by
  rcases ht with ht | ht
  · have e1 := mul_le_left ht hy1
    have e0 := mul_le_left ht hy0
    omega
  · omega
/-- the digit is not too great -/
theorem digit_fit {u d y1 y0 q r : Int} (h1 : q * y1 + r = u) (ht : ¬ (4294967296 * r + d < q * y0)) : q * y1 * 4294967296 + q * y0 ≤ 4294967296 * u + d := by omega
theorem digit_break {u d y1 y0 q r : Int} (h1 : q * y1 + r = u) (hr : 4294967296 ≤ r) (hu : u < y1 * 4294967296 + y0) (hd : 0 ≤ d) (hy1 : 1 ≤ y1) (hy0 : 0 ≤ y0 ∧ y0 < 4294967296) : q * y1 * 4294967296 + q * y0 ≤ 4294967296 * u + d := by
  have hq : q < 4294967296 := by
    rcases Int.lt_or_le q 4294967296 with h | h
    · exact h
    · have := mul_le_left h (by omega : 0 ≤ y1)
      omega
  have := mul_le_left (show q ≤ 4294967296 by omega) hy0.1
  omega
theorem digit_down {y1 q r u : Int} (h1 : q * y1 + r = u) : (q - 1) * y1 + (r + y1) = u := by rw [Int.sub_mul]; omega
theorem digit_next {u d y1 y0 q : Int} (h : 4294967296 * u + d < q * y1 * 4294967296 + q * y0) : 4294967296 * u + d < (q - 1) * y1 * 4294967296 + (q - 1) * y0 + (y1 * 4294967296 + y0) := by
  rw [Int.sub_mul q 1 y1, Int.sub_mul q 1 y0]; omega
theorem digit_pos {u d y1 y0 q : Int} (h : 4294967296 * u + d < q * y1 * 4294967296 + q * y0) (hu : 0 ≤ u) (hd : 0 ≤ d) (hy1 : 0 ≤ y1) (hy0 : 0 ≤ y0) : 1 ≤ q := by
  rcases Int.lt_or_le q 1 with h1 | h1
  · have e1 := mul_le_left (show q ≤ 0 by omega) hy1
    have e0 := mul_le_left (show q ≤ 0 by omega) hy0
    omega
  · exact h1
theorem digit_lt {u d y1 y0 q : Int} (h : q * y1 * 4294967296 + q * y0 ≤ 4294967296 * u + d) (hu : u < y1 * 4294967296 + y0) (hd : d < 4294967296) (hy1 : 0 ≤ y1) (hy0 : 0 ≤ y0) : q < 4294967296 := by
  rcases Int.lt_or_le q 4294967296 with h1 | h1
  · exact h1
  · have e1 := mul_le_left h1 hy1
    have e0 := mul_le_left h1 hy0
    omega
/-- the first guess -/
theorem digit_first {u d y1 y0 : Int} (hy1 : 1 ≤ y1) (hy0 : 0 ≤ y0) (hu : 0 ≤ u) (hd : d < 4294967296) :
    u / y1 * y1 + (u - u / y1 * y1) = u ∧ 0 ≤ u - u / y1 * y1 ∧ u - u / y1 * y1 < y1 ∧ 0 ≤ u / y1 ∧
    4294967296 * u + d < u / y1 * y1 * 4294967296 + u / y1 * y0 + (y1 * 4294967296 + y0) := by
  have e := Int.mul_ediv_add_emod u y1
  rw [Int.mul_comm] at e
  have h1 := Int.emod_nonneg u (by omega : y1 ≠ 0)
  have h2 := Int.emod_lt_of_pos u (by omega : 0 < y1)
  have h3 := Int.ediv_nonneg hu (by omega : 0 ≤ y1)
  have h4 := Int.mul_nonneg h3 hy0
  omega
theorem wrap_rest {a b c v : Int} (h : v = a + b - c) (h0 : 0 ≤ v ∧ v < 18446744073709551616) : IntKind.u64.wrap (IntKind.u64.wrap (IntKind.u64.wrap a + b) - IntKind.u64.wrap c) = v := by
  simp only [IntKind.wrap_u64]; omega
/-- the whole division: n * p = u * 2^64 + m, digits q1, q0, rest r -/
theorem div_whole {n y p u m q1 q0 v r : Int} (hp : 1 ≤ p) (hn : n * p = u * 18446744073709551616 + m) (h1 : u * 4294967296 + m / 4294967296 = q1 * (y * p) + v) (h0 : v * 4294967296 + m % 4294967296 = q0 * (y * p) + r) (hr : 0 ≤ r ∧ r < y * p) (hy : 1 ≤ y) :
    q1 * 4294967296 + q0 = n / y ∧ r / p = n % y := by
  have e : n * p = (q1 * 4294967296 + q0) * (y * p) + r := by
    have hm := Int.mul_ediv_add_emod m 4294967296
    rw [Int.add_mul, Int.mul_right_comm q1]
    omega
  have e2 : r = (n - (q1 * 4294967296 + q0) * y) * p := by
    rw [Int.sub_mul, Int.mul_assoc]; omega
  have h3 : r / p = n - (q1 * 4294967296 + q0) * y := by rw [e2, Int.mul_ediv_cancel _ (by omega)]
  generalize hQ : q1 * 4294967296 + q0 = Q at *
  have h5 : 0 ≤ n - Q * y := by rw [← h3]; exact Int.ediv_nonneg hr.1 (by omega)
  have h6 : n - Q * y < y := by
    rw [← h3]; exact Int.ediv_lt_of_lt_mul (by omega) hr.2
  have h7 : n / y = Q := by
    have h8 : n = y * Q + (n - Q * y) := by rw [Int.mul_comm y]; omega
    rw [h8, Int.add_comm, Int.add_mul_ediv_left _ _ (by omega), Int.ediv_eq_zero_of_lt h5 h6]; omega
  refine ⟨h7.symm, ?_⟩
  have h9 := Int.mul_ediv_add_emod n y
  rw [h7] at h9
  rw [h3, Int.mul_comm Q]; omega
theorem norm_facts {y : Nat} (h1 : 1 ≤ y) (h2 : y < 18446744073709551616) : ∃ s : Nat, s = 64 - Lib.bitLen y ∧ s ≤ 63 ∧ Lib.bitLen y ≤ 64 ∧ 9223372036854775808 ≤ y * 2 ^ s ∧ y * 2 ^ s < 18446744073709551616 := by
  obtain ⟨a, b, c⟩ := Lib.bitLenAux_bounds 64 y h2 (by omega)
  have hL : Lib.bitLen y ≤ 64 := Lib.bitLen_le y 64 (Nat.le_refl _) h2
  have hu : Lib.bitLenAux 64 y = Lib.bitLen y := rfl
  rw [hu] at a b c
  refine ⟨64 - Lib.bitLen y, rfl, by omega, hL, ?_, ?_⟩
  · have : 2 ^ (Lib.bitLen y - 1) * 2 ^ (64 - Lib.bitLen y) ≤ y * 2 ^ (64 - Lib.bitLen y) := Nat.mul_le_mul_right _ b
    rw [← Nat.pow_add, show Lib.bitLen y - 1 + (64 - Lib.bitLen y) = 63 by omega] at this
    exact this
  · have : y * 2 ^ (64 - Lib.bitLen y) < 2 ^ Lib.bitLen y * 2 ^ (64 - Lib.bitLen y) := Nat.mul_lt_mul_of_pos_right c (Nat.two_pow_pos _)
    rw [← Nat.pow_add, show Lib.bitLen y + (64 - Lib.bitLen y) = 64 by omega] at this
    exact this
theorem high_or {hi lo s : Nat} (hs : s ≤ 63) (hlo : lo < 18446744073709551616) : (hi * 2 ^ s) ||| (lo / 2 ^ (64 - s)) = hi * 2 ^ s + lo / 2 ^ (64 - s) ∧ lo / 2 ^ (64 - s) < 18446744073709551616 := by
  have h : lo / 2 ^ (64 - s) < 2 ^ s := by
    apply Nat.div_lt_of_lt_mul
    rw [← Nat.pow_add, show 64 - s + s = 64 by omega]; exact hlo
  refine ⟨?_, by have := Nat.div_le_self lo (2 ^ (64 - s)); omega⟩
  have := Nat.two_pow_add_eq_or_of_lt h hi
  rw [Nat.mul_comm (2 ^ s) hi] at this
  exact this.symm
/-- the shifted dividend -/
theorem shift_whole {hi lo s : Nat} (hs : s ≤ 63) : (hi * 18446744073709551616 + lo) * 2 ^ s = (hi * 2 ^ s + lo / 2 ^ (64 - s)) * 18446744073709551616 + lo * 2 ^ s % 18446744073709551616 := by
  have e : lo * 2 ^ s / 18446744073709551616 = lo / 2 ^ (64 - s) := by
    have : (18446744073709551616 : Nat) = 2 ^ (64 - s) * 2 ^ s := by rw [← Nat.pow_add, show 64 - s + s = 64 by omega]
    rw [this, Nat.mul_div_mul_right _ _ (Nat.two_pow_pos _)]
  have e2 := Nat.div_add_mod (lo * 2 ^ s) 18446744073709551616
  rw [e] at e2
  rw [Nat.add_mul, Nat.add_mul, Nat.mul_right_comm]
  omega
theorem high_lt {hi lo y s : Nat} (hs : s ≤ 63) (h : hi < y) (hlo : lo < 18446744073709551616) : hi * 2 ^ s + lo / 2 ^ (64 - s) < y * 2 ^ s := by
  have h1 : lo / 2 ^ (64 - s) < 2 ^ s := by
    apply Nat.div_lt_of_lt_mul
    rw [← Nat.pow_add, show 64 - s + s = 64 by omega]; exact hlo
  have h2 : (hi + 1) * 2 ^ s ≤ y * 2 ^ s := Nat.mul_le_mul_right _ h
  rw [Nat.add_mul] at h2
  omega
end Go.Proofs.YtkdfdbcpbgganaaGreatDoor
end
