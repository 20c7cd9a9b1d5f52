/- Life tables are written: joined, TableText of the program; l01Number, l01Join, TableText of the reference. -/
import Derived.Test.YtlbllonpodckgaaGreatDoorTabS
import Derived.Test.YtlbllonpodckgaaGreatDoorTabA
import Derived.Test.YtlbllonpodckgaaGreatDoorTextI
import Derived.Test.YtlbllonpodckgaaGreatDoorTextS
namespace Go.Proofs.YtlbllonpodckgaaGreatDoor
open Go.RowKit Go.BigFrame

def textP (f : Int) (xs : List Int) : List UInt8 := if tableB f xs = true then numsL (f :: xs) else []
theorem cap_of {w : World} {B t sz n cap : Nat} {A : Option Addr} {rows : List (List Value)} (h : Res B w t sz A n cap rows) : n ≤ cap := by
  rcases h.own.2 with ⟨h1, h2⟩ | ⟨g, c, cur, e, _, _, hnc, _⟩
  · simp only [Value.slice.injEq] at h1; omega
  · simp only [Value.slice.injEq] at e; omega
theorem words_of {w : World} {B n cap : Nat} {A : Option Addr} {ws : List (List UInt8)} (h : Res B w 9 1 A n cap (strRows ws)) (hn : 0 < n) : ∃ g, A = some ⟨g, 0, none⟩ ∧ B ≤ g ∧ g < w.heap.size ∧ ∀ k p, ws[k]? = some p → w.cell? ⟨g, k, none⟩ = some (.string (S p)) := by
  obtain ⟨g, cs, rfl, hB, hblk, _, hcs⟩ := h.at_ hn
  have hl : ws.length = n := by have := h.len; simpa [strRows] using this
  refine ⟨g, rfl, hB, hblk.lt, fun k p hp => ?_⟩
  have hk := (List.getElem?_eq_some_iff.1 hp).1
  have hfl : (strRows ws).flatten = ws.map fun p => Value.string (S p) := by
    unfold strRows
    clear h hcs hl hp hk hblk
    induction ws with
    | nil => rfl
    | cons x r ih => simp [ih]
  rw [hblk.cell, hcs k (by omega), hfl, List.getElem?_map, hp]; rfl
theorem Past.tab {w : World} (h : Tab w) (x : Past w) : Tab x.1 := h.past x.2
theorem nums_take {xs : List Int} {k : Nat} {x : Int} (h : xs[k]? = some x) (hk : 0 < k) : numsL (xs.take (k + 1)) = numsL (xs.take k) ++ [32] ++ decL x := by
  rw [List.take_add_one, h, Option.toList_some]
  refine nums_snoc ?_
  intro h0
  have h1 := congrArg List.length h0
  have h2 := (List.getElem?_eq_some_iff.1 h).1
  rw [List.length_take] at h1
  simp only [List.length_nil] at h1
  omega
theorem nums_take0 {xs : List Int} {x : Int} (h : xs[0]? = some x) : numsL (xs.take 1) = decL x := by
  rw [List.take_add_one, h, Option.toList_some]
  exact nums_one x
theorem table_bounds {f : Int} {xs : List Int} (h : tableB f xs = true) : (0 ≤ f ∧ f ≤ 100) ∧ (2 ≤ xs.length ∧ xs.length ≤ 120) ∧ ∀ x ∈ xs, 0 ≤ x ∧ x ≤ 1000000 := by
  have T := table_ok h
  refine ⟨⟨T.first0, T.first1⟩, ⟨T.len0, T.len1⟩, fun x hx => ?_⟩
  obtain ⟨k, hk⟩ := List.mem_iff_getElem?.1 hx
  rw [← lv_get hk]
  exact ⟨T.nonneg k, T.most k⟩
theorem nums_size {xs : List Int} (hn : xs.length ≤ 130) (hb : ∀ x ∈ xs, 0 ≤ x ∧ x ≤ 1000000) (k : Nat) : (S (numsL (xs.take k))).size ≤ 3000 := by
  rw [S_size]
  have h1 := nums_len (xs.take k) (fun n hx => by have := hb n (List.mem_of_mem_take hx); omega)
  rw [List.length_take] at h1
  omega

set_option maxHeartbeats 4000000 in
theorem impl_joined_any (A : Option Addr) (n cap : Nat) (xs : List Int) (w : World) (hl : xs.length = n) (hn : 1 ≤ n ∧ n ≤ 130) (hX : Rd w w.heap.size A 1 (intRows xs)) (hb : ∀ x ∈ xs, 0 ≤ x ∧ x ≤ 1000000) (hT : Tab w) :
    Calls Tryz.prog 88 #[.slice A n cap] w fun e w' => e = .returned (.string (S (numsL xs))) ∧ Below w.heap.size w w' := by
  obtain ⟨i0, hi0, hj0, hj1, hj2⟩ := info_parts strInf
  have HI := Lib.hid (And.intro hi0 (And.intro hj0 (And.intro hj1 hj2))); clear hi0 hj0 hj1 hj2
  have HL := Lib.hid hl; clear hl
  have HX := Lib.hid hX; clear hX
  have HBD := Lib.hid hb; clear hb
  have HTab := Lib.hid hT; clear hT
  obtain ⟨n0, n1⟩ := hn
  have HR0 := Lib.hid (show Res w.heap.size (w.alloc (.cells #[] 9)) 9 1 (some ⟨w.heap.size, 0, none⟩) 0 0 (strRows []) from Res.zero w w.heap.size 9 1 (Nat.le_refl _))
  have HW0 := Lib.hid ((Below.refl w.heap.size w).alloc (Nat.le_refl _) (.cells #[] 9))
  go_enter Tryz.func88, Tryz.ntmps88
  go_wp2
  go_loopw [3, 9] (fun o i wr => ∃ (k c9 : Nat) (B : Option Addr), k ≤ n ∧ i = .int .i64 k ∧ o = .slice B k c9 ∧ Hid (Res w.heap.size wr 9 1 B k c9 (strRows ((xs.take k).map decL))) ∧ Hid (Below w.heap.size w wr)) (fun _ i _ => n - (intOf i).toNat)
  case atStart => exact ⟨0, 0, _, by omega, rfl, rfl, HR0, HW0⟩
  case round =>
    obtain ⟨k, cB, B, hk, rfl, rfl, HR, HB⟩ := hrel
    clear HR0 HW0
    by_cases hlt : k < n
    · obtain ⟨x, hx⟩ := get_of_lt (xs := xs) (k := k) (by rw [HL.out]; exact hlt)
      obtain ⟨x0, x1⟩ := HBD.out x (List.mem_of_getElem? hx)
      have hki : (k : Int) < (n : Int) := by omega
      obtain ⟨ad, rfl, had, hcl⟩ := (HX.out.past HB.out).int_at hx
      have HTK := Lib.hid (show (xs.take (k + 1)).map decL = (xs.take k).map decL ++ [decL x] by rw [List.take_add_one, hx]; simp)
      clear hx
      go_wp2_with fail
      refine (impl_decimal_any x (by unfold In64; omega) wr (HTab.out.past HB.out)).mono ?_
      rw [itoa_pos x0]
      rintro e w2 ⟨rfl, hb2⟩
      have HB2 := Lib.hid (HB.out.trans (hb2.mono HB.out.size))
      have HR2 := Lib.hid (HR.out.past hb2)
      clear hb2 HB HR
      have hbsz := HB2.out.size
      go_wp2_with (at_builtin; refine wpList_append_row_at _ rfl _ _ _ rfl w.heap.size 9 i0 _ 1 16 Tryz.underlying72 HI.out.1 HI.out.2.1 HI.out.2.2.1 HI.out.2.2.2 rfl (by decide) (by decide) B k cB _ rfl HR2.out [.string (S (decL x))] _ rfl rfl (by simp [Value.oneCell']) (by omega) hbsz ?_; intro A9 c9 w9 hR9 hb9 _ _)
      rw [← strRows_snoc, ← HTK.out] at hR9
      have HR9 := Lib.hid hR9
      have HB9 := Lib.hid (HB2.out.trans hb9)
      clear hR9 hb9
      go_wp2
      go_roundw
      case rel => exact ⟨k + 1, c9, A9, by omega, by go_num, rfl, HR9, HB9⟩
      case measure => simp [intOf]; omega
    · have hkn : k = n := by omega
      subst hkn
      have hxt : xs.take k = xs := List.take_of_length_le (by rw [HL.out]; exact Nat.le_refl _)
      rw [hxt] at HR
      clear hxt
      obtain ⟨g, rfl, hg0, hg1, hcw⟩ := words_of HR.out (by omega)
      have hLl : ((xs.map decL).map S).length = k := by rw [List.length_map, List.length_map, HL.out]
      have hjl : Lib.join (((xs.map decL).map S).map (·.data.toList)) (⟨#[32]⟩ : ByteArray).data.toList = numsL xs := by
        unfold numsL
        congr 1
        rw [List.map_map]
        conv => rhs; rw [← List.map_id (xs.map decL)]
        exact List.map_congr_left (fun p _ => S_list p)
      have hnl := nums_size (xs := xs) (by rw [HL.out]; omega) HBD.out xs.length
      rw [List.take_length, S_size] at hnl
      have HJ := Lib.hid (Tryz.strings_Join g 0 cB ((xs.map decL).map S) ⟨#[32]⟩ wr (fun j y hy => by
        rw [List.getElem?_map] at hy
        cases hp : (xs.map decL)[j]? with
        | none => rw [hp] at hy; cases hy
        | some p =>
          rw [hp] at hy
          injection hy with hy
          rw [Nat.zero_add, ← hy]
          exact hcw j p hp) hg1 (by rw [hLl]; omega) (by rw [hLl]; exact cap_of HR.out) (by rw [hjl]; omega))
      rw [hjl, hLl] at HJ
      clear hjl hnl hcw hLl
      go_wp2_with fail
      refine HJ.out.mono ?_
      rintro e w2 ⟨rfl, hb2⟩
      have HB2 := Lib.hid (HB.out.trans (hb2.mono HB.out.size))
      go_wp2
      go_ret
      exact ⟨rfl, HB2.out⟩

set_option maxHeartbeats 2000000 in
theorem impl_TableText_any (f : Int) (A : Option Addr) (n cap : Nat) (xs : List Int) (w : World) (hT : LiesT w A n xs) (hcap : n ≤ cap) (hf : In64 f) (hTab : Tab w) :
    Calls Tryz.prog 48 #[.agg #[.int .i64 f, .slice A n cap]] w fun e w' => e = .returned (.string (S (textP f xs))) ∧ Below w.heap.size w w' := by
  have hbw : Below w.heap.size w (w.alloc (.cells #[.int .i64 f, .slice A n cap] 40)) := (Below.refl _ w).alloc (Nat.le_refl _) _
  have HB := Lib.hid (Blk.new w 40 #[.int .i64 f, .slice A n cap])
  have HT := Lib.hid (hT.past hbw); clear hT
  have HTB := Lib.hid (hTab.past hbw); clear hTab
  have HL := Lib.hid HT.out.len
  go_enter Tryz.func48, Tryz.ntmps48
  go_wp2_with fail
  refine (impl_IsLifeTable_any f A n cap xs _ HT.out hcap hf).mono ?_
  rintro e w1 ⟨rfl, hb1⟩
  cases ht : tableB f xs
  · have Q := Lib.hid (show textP f xs = [] by unfold textP; rw [ht]; rfl)
    go_wp2
    go_ret
    exact ⟨by rw [Q.out]; rfl, hbw.trans (hb1.mono (by simp))⟩
  · obtain ⟨⟨f0, f1⟩, ⟨x0, x1⟩, hxb⟩ := table_bounds ht
    have Q := Lib.hid (show textP f xs = numsL (f :: xs) by unfold textP; rw [ht]; rfl)
    have HT1 := Lib.hid (HT.out.past hb1)
    have HTB1 := Lib.hid (HTB.out.past hb1)
    have hn := HL.out
    have HDC := Lib.hid (fun y : Past w1 => (show Calls Tryz.prog 87 #[.int .i64 f] y.1 (fun e w' => e = .returned (.string (S (decL f))) ∧ Below y.1.heap.size y.1 w') from by
      have := impl_decimal_any f hf y.1 (Past.tab HTB1.out y)
      rwa [itoa_pos f0] at this))
    have HJN := Lib.hid (fun y : Past w1 => impl_joined_any A n cap xs y.1 hn (by omega) (HT1.out.at_past y).rd hxb (Past.tab HTB1.out y))
    have hzd : (S (decL f)).size ≤ 17 := decS_len (by omega)
    have hzj := nums_size (xs := xs) (by omega) hxb xs.length
    rw [List.take_length] at hzj
    have HQ := Lib.hid (show S (numsL (f :: xs)) = S (decL f) ++ (⟨#[32]⟩ : ByteArray) ++ S (numsL xs) from by
      rw [nums_cons (by intro h0; rw [h0] at x0; simp at x0), ← S_append, ← S_append]; rfl)
    generalize S (decL f) = DS at HDC hzd HQ
    generalize S (numsL xs) = JS at HJN hzj HQ
    change Hid _ at HDC
    change Hid _ at HJN
    change Hid _ at HQ
    have hcs := Lib.hid (Blk.agg_past (cs := [.int .i64 f, .slice A n cap]) (HB.out.below' hb1) 0 [.int .i64 f, .slice A n cap] rfl)
    have d0 := fun y : Past w1 => (show y.1.cell? ⟨w.heap.size, 0, none⟩ = some (.int .i64 f) from Past.cell (p := ⟨w.heap.size, 0, none⟩) ((HB.out.below' hb1).cell 0) y)
    have d1 := fun y : Past w1 => (show y.1.cell? ⟨w.heap.size, 1, none⟩ = some (.slice A n cap) from Past.cell (p := ⟨w.heap.size, 1, none⟩) ((HB.out.below' hb1).cell 1) y)
    have u1 : ¬ 9223372036854775807 < DS.size + 1 := by omega
    have u2 : ¬ 9223372036854775807 < DS.size + 1 + JS.size := by omega
    clear hn hxb x0 x1 ht
    go_wp2
    refine wp_region_past (by kernel_rfl) (by kernel_rfl) ?_
    repeat (go_big_quiet_step ((first | (go_at_call 87; exact past_call (HDC.out _)) | (go_at_call 88; exact past_call (HJN.out _)))))
    refine wpQuiet_nil ?_
    rintro _ ⟨y, rfl⟩
    go_wp2
    go_ret
    exact ⟨by rw [Q.out, HQ.out]; rfl, hbw.trans ((hb1.trans (y.2.mono hb1.size)).mono (by simp))⟩

theorem spec_l01Number_any (x : Int) (w : World) (h0 : 0 ≤ x) (h1 : x ≤ 1000000000000000) :
    Calls Tryz.prog 149 #[.int .i64 x] w fun e w' => e = .returned (.string (S (decL x))) ∧ Below w.heap.size w w' := by
  go_enter Tryz.func149, Tryz.ntmps149
  go_wp2_with fail
  refine (spec_l01Dec_int x h0 (by omega) w).mono ?_
  rintro e w1 ⟨rfl, hb1⟩
  go_wp2
  go_ret
  exact ⟨rfl, hb1⟩
set_option maxHeartbeats 4000000 in
theorem spec_l01Join_any (A : Option Addr) (n cap : Nat) (xs : List Int) (w : World) (hl : xs.length = n) (hn : 1 ≤ n ∧ n ≤ 130) (hX : Rd w w.heap.size A 1 (intRows xs)) (hb : ∀ x ∈ xs, 0 ≤ x ∧ x ≤ 1000000) :
    Calls Tryz.prog 92 #[.slice A n cap, .string ⟨#[32]⟩] w fun e w' => e = .returned (.string (S (numsL xs))) ∧ Below w.heap.size w w' := by
  have HL := Lib.hid hl; clear hl
  have HX := Lib.hid hX; clear hX
  have HBD := Lib.hid hb; clear hb
  obtain ⟨n0, n1⟩ := hn
  have HSZ := Lib.hid (fun k => nums_size (xs := xs) (by rw [HL.out]; omega) HBD.out k)
  go_enter Tryz.func92, Tryz.ntmps92
  go_wp2
  go_loopw [5, 6] (fun o i wr => ∃ k : Nat, k ≤ n ∧ i = .int .i64 k ∧ o = .string (S (numsL (xs.take k))) ∧ Hid (Below w.heap.size w wr)) (fun _ i _ => n - (intOf i).toNat)
  case atStart => exact ⟨0, by omega, rfl, rfl, Lib.hid (Below.refl _ _)⟩
  case round =>
    obtain ⟨k, hk, rfl, rfl, HB⟩ := hrel
    by_cases hlt : k < n
    · obtain ⟨x, hx⟩ := get_of_lt (xs := xs) (k := k) (by rw [HL.out]; exact hlt)
      obtain ⟨x0, x1⟩ := HBD.out x (List.mem_of_getElem? hx)
      have hki : (k : Int) < (n : Int) := by omega
      obtain ⟨ad, rfl, had, hcl⟩ := (HX.out.past HB.out).int_at hx
      have hz := HSZ.out k
      have hzx : (S (decL x)).size ≤ 17 := decS_len (by omega)
      have HNB := Lib.hid (fun X => spec_l01Number_any x X x0 (by omega))
      rcases Nat.eq_zero_or_pos k with hk0 | hk0
      · subst hk0
        have HQ := Lib.hid (show S (numsL (xs.take (0 + 1))) = S (numsL (xs.take 0)) ++ S (decL x) from by
          rw [nums_take0 hx, S_append]; rfl)
        generalize S (numsL (xs.take 0)) = OUT at hz HQ ⊢
        generalize S (decL x) = DX at hzx HQ HNB
        change Hid _ at HQ
        change Hid _ at HNB
        have u1 : ¬ 9223372036854775807 < OUT.size + DX.size := by omega
        have hc0 : wr.cell? ad = some (.int .i64 x) := by have := hcl; rwa [Addr.add_zero'] at this
        clear hx
        go_wp2_with fail
        refine (HNB.out _).mono ?_
        rintro e w2 ⟨rfl, hb2⟩
        have HB2 := Lib.hid (HB.out.trans (hb2.mono HB.out.size))
        go_wp2
        go_roundw
        case rel => exact ⟨0 + 1, by omega, by go_num, by rw [HQ.out], HB2⟩
        case measure => simp [intOf]; omega
      · have HQ := Lib.hid (show S (numsL (xs.take (k + 1))) = S (numsL (xs.take k)) ++ (⟨#[32]⟩ : ByteArray) ++ S (decL x) from by
          rw [nums_take hx hk0, ← S_append, ← S_append]; rfl)
        generalize S (numsL (xs.take k)) = OUT at hz HQ ⊢
        generalize S (decL x) = DX at hzx HQ HNB
        change Hid _ at HQ
        change Hid _ at HNB
        have hk0i : (0 : Int) < (k : Int) := by omega
        have u1 : ¬ 9223372036854775807 < OUT.size + 1 := by omega
        have u2 : ¬ 9223372036854775807 < OUT.size + 1 + DX.size := by omega
        clear hx
        go_wp2_with fail
        refine (HNB.out _).mono ?_
        rintro e w2 ⟨rfl, hb2⟩
        have HB2 := Lib.hid (HB.out.trans (hb2.mono HB.out.size))
        go_wp2
        go_roundw
        case rel => exact ⟨k + 1, by omega, by go_num, by rw [HQ.out], HB2⟩
        case measure => simp [intOf]; omega
    · have hkn : k = n := by omega
      subst hkn
      have hxt : xs.take k = xs := List.take_of_length_le (by rw [HL.out]; exact Nat.le_refl _)
      rw [hxt]
      go_wp2
      go_ret
      exact ⟨rfl, HB.out⟩
set_option maxHeartbeats 2000000 in
theorem spec_TableText_any (f : Int) (A : Option Addr) (n cap : Nat) (xs : List Int) (w : World) (hT : LiesT w A n xs) (hcap : n ≤ cap) (hf : In64 f) :
    Calls Tryz.prog 52 #[.agg #[.int .i64 f, .slice A n cap]] w fun e w' => e = .returned (.string (S (textP f xs))) ∧ Below w.heap.size w w' := by
  obtain ⟨i0, hi0, hj0, hj1, hj2⟩ := info_parts Int64.info
  have HI := Lib.hid (And.intro hi0 (And.intro hj0 (And.intro hj1 hj2))); clear hi0 hj0 hj1 hj2
  have hbw : Below w.heap.size w (w.alloc (.cells #[.int .i64 f, .slice A n cap] 40)) := (Below.refl _ w).alloc (Nat.le_refl _) _
  have HB := Lib.hid (Blk.new w 40 #[.int .i64 f, .slice A n cap])
  have HT := Lib.hid (hT.past hbw); clear hT
  have HL := Lib.hid HT.out.len
  go_enter Tryz.func52, Tryz.ntmps52
  go_wp2_with fail
  refine (spec_IsLifeTable_any f A n cap xs _ HT.out hcap hf).mono ?_
  rintro e w1 ⟨rfl, hb1⟩
  cases ht : tableB f xs
  · have Q := Lib.hid (show textP f xs = [] by unfold textP; rw [ht]; rfl)
    go_wp2
    go_ret
    exact ⟨by rw [Q.out]; rfl, hbw.trans (hb1.mono (by simp))⟩
  · obtain ⟨⟨f0, f1⟩, ⟨x0, x1⟩, hxb⟩ := table_bounds ht
    have Q := Lib.hid (show textP f xs = numsL (f :: xs) by unfold textP; rw [ht]; rfl)
    have b0 : w1.cell? ⟨w.heap.size, 0, none⟩ = some (.int .i64 f) := (HB.out.below' hb1).cell 0
    have b1 : w1.cell? ⟨w.heap.size, 1, none⟩ = some (.slice A n cap) := (HB.out.below' hb1).cell 1
    have hal : Below w1.heap.size w1 (w1.alloc (.cells #[.int .i64 f] 2)) := (Below.refl _ w1).alloc (Nat.le_refl _) _
    have b2 : (w1.alloc (.cells #[.int .i64 f] 2)).cell? ⟨w.heap.size, 1, none⟩ = some (.slice A n cap) := (hal.cell (show w.heap.size < w1.heap.size from (HB.out.below' hb1).lt)).trans b1
    have HT2 := Lib.hid ((HT.out.past hb1).past hal)
    have HB1 := Lib.hid hb1
    have HXB := Lib.hid hxb
    have HRN := Lib.hid (show Res w1.heap.size (w1.alloc (.cells #[.int .i64 f] 2)) 2 1 (some ⟨w1.heap.size, 0, none⟩) 1 1 (intRows [f]) from ⟨⟨by simp [intRows], .inr ⟨w1.heap.size, 1, #[.int .i64 f], rfl, Nat.le_refl _, Blk.new w1 _ _, Nat.le_refl _, by decide, by simp, by simp [intRows]⟩⟩, rfl, intRows_all [f]⟩)
    have hn := HL.out
    have hA0 := Lib.hid (show A = none → n = 0 from fun h0 => by
      rcases HT2.out.rd with h | ⟨ad, e, _⟩
      · have h9 := congrArg List.length h
        rw [intRows_length, hn] at h9
        simpa using h9
      · rw [h0] at e; cases e)
    clear hxb x0 ht
    go_wp2_with (at_builtin; refine wpList_append_res _ rfl _ _ 38 rfl w1.heap.size 2 i0 _ 1 8 Tryz.underlying38 HI.out.1 HI.out.2.1 HI.out.2.2.1 HI.out.2.2.2 rfl (by decide) _ 1 1 (intRows [f]) rfl HRN.out _ A n cap (intRows xs) rfl hA0.out HT2.out.rd (by rw [intRows_length]; exact hn) (intRows_all xs) (by intro r hr u hu; obtain ⟨y, _, rfl⟩ := List.mem_map.1 hr; simp at hu; subst hu; rfl) (by omega) (by omega) (by simp) ?_; intro A5 c5 w5 hR5 hb5)
    rw [show intRows [f] ++ intRows xs = intRows (f :: xs) by simp [intRows]] at hR5
    have HR5 := Lib.hid hR5
    have hb5' : Below w1.heap.size w1 w5 := hal.trans (hb5.mono (Nat.le_refl _))
    have HB5 := Lib.hid (HB1.out.trans (hb5'.mono HB1.out.size))
    clear hR5 hb5 hb5'
    go_wp2_with fail
    refine (spec_l01Join_any A5 (1 + n) c5 (f :: xs) w5 (by rw [List.length_cons, hn]; omega) (by omega) HR5.out.rd (fun y hy => by
      rcases List.mem_cons.1 hy with rfl | hy
      · omega
      · exact HXB.out y hy)).mono ?_
    rintro e w6 ⟨rfl, hb6⟩
    go_wp2
    go_ret
    exact ⟨by rw [Q.out]; rfl, hbw.trans ((HB5.out.trans (hb6.mono HB5.out.size)).mono (by simp))⟩
end Go.Proofs.YtlbllonpodckgaaGreatDoor
