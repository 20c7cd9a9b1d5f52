/- Parts of a proof, one after another: TabW, TabT, TabD, PtP, Sick1, Sick2, SickP, Sick3. No condition. -/
import Derived.Test.YtkdfdbcpbgganaaGreatDoorK1
import Derived.Test.YtkdfdbcpbgganaaGreatDoorK2
import Derived.Test.YtkdfdbcpbgganaaGreatDoorK3
import Derived.Test.YtkdfdbcpbgganaaGreatDoorK4
import Derived.Test.YtkdfdbcpbgganaaGreatDoorK7
import Derived.Test.YtkdfdbcpbgganaaGreatDoorK10
import Derived.Test.YtkdfdbcpbgganaaGreatDoorK11
import Derived.Deep.DeepCutAuto
import Derived.Deep.RegionHeld3
/- Life tables are written: joined, TableText of the program; l01Number, l01Join, TableText of the reference. -/
section
namespace Go.Proofs.YtkdfdbcpbgganaaGreatDoor
open Go.RowKit Go.BigFrame

def textP (f : Int) (xs : List Int) : List UInt8 := if tableB f xs = true then numsL (f :: xs) else []
theorem cap_of {w : World} {B t sz n cap : Nat} {A : Option Addr} {rows : List (List Value)} (h : Res B w t sz A n cap rows) : n ≤ cap := by
  rcases h.own.2 with ⟨h1, h2⟩ | ⟨g, c, cur, e, _, _, hnc, _⟩
  · simp only [Value.slice.injEq] at h1; omega
  · simp only [Value.slice.injEq] at e; omega
theorem words_of {w : World} {B n cap : Nat} {A : Option Addr} {ws : List (List UInt8)} (h : Res B w 9 1 A n cap (strRows ws)) (hn : 0 < n) : ∃ g, A = some ⟨g, 0, none⟩ ∧ B ≤ g ∧ g < w.heap.size ∧ ∀ k p, ws[k]? = some p → w.cell? ⟨g, k, none⟩ = some (.string (S p)) := by
  obtain ⟨g, cs, rfl, hB, hblk, _, hcs⟩ := h.at_ hn
  have hl : ws.length = n := by have := h.len; simpa [strRows] using this
  refine ⟨g, rfl, hB, hblk.lt, fun k p hp => ?_⟩
  have hk := (List.getElem?_eq_some_iff.1 hp).1
  have hfl : (strRows ws).flatten = ws.map fun p => Value.string (S p) := by
    unfold strRows
    clear h hcs hl hp hk hblk
    induction ws with
    | nil => rfl
    | cons x r ih => simp [ih]
  rw [hblk.cell, hcs k (by omega), hfl, List.getElem?_map, hp]; rfl
theorem Past.tab {w : World} (h : Tab w) (x : Past w) : Tab x.1 := h.past x.2
theorem nums_take {xs : List Int} {k : Nat} {x : Int} (h : xs[k]? = some x) (hk : 0 < k) : numsL (xs.take (k + 1)) = numsL (xs.take k) ++ [32] ++ decL x := by
  rw [List.take_add_one, h, Option.toList_some]
  refine nums_snoc ?_
  intro h0
  have h1 := congrArg List.length h0
  have h2 := (List.getElem?_eq_some_iff.1 h).1
  rw [List.length_take] at h1
  simp only [List.length_nil] at h1
  omega
theorem nums_take0 {xs : List Int} {x : Int} (h : xs[0]? = some x) : numsL (xs.take 1) = decL x := by
  rw [List.take_add_one, h, Option.toList_some]
  exact nums_one x
theorem table_bounds {f : Int} {xs : List Int} (h : tableB f xs = true) : (0 ≤ f ∧ f ≤ 100) ∧ (2 ≤ xs.length ∧ xs.length ≤ 120) ∧ ∀ x ∈ xs, 0 ≤ x ∧ x ≤ 1000000 := by
  have T := table_ok h
  refine ⟨⟨T.first0, T.first1⟩, ⟨T.len0, T.len1⟩, fun x hx => ?_⟩
  obtain ⟨k, hk⟩ := List.mem_iff_getElem?.1 hx
  rw [← lv_get hk]
  exact ⟨T.nonneg k, T.most k⟩
theorem nums_size {xs : List Int} (hn : xs.length ≤ 130) (hb : ∀ x ∈ xs, 0 ≤ x ∧ x ≤ 1000000) (k : Nat) : (S (numsL (xs.take k))).size ≤ 3000 := by
  rw [S_size]
  have h1 := nums_len (xs.take k) (fun n hx => by have := hb n (List.mem_of_mem_take hx); omega)
  rw [List.length_take] at h1
  omega

set_option maxHeartbeats 4000000 in
theorem impl_joined_any (A : Option Addr) (n cap : Nat) (xs : List Int) (w : World) (hl : xs.length = n) (hn : 1 ≤ n ∧ n ≤ 130) (hX : Rd w w.heap.size A 1 (intRows xs)) (hb : ∀ x ∈ xs, 0 ≤ x ∧ x ≤ 1000000) (hT : Tab w) :
    Calls Tryz.prog 42 #[.slice A n cap] w fun e w' => e = .returned (.string (S (numsL xs))) ∧ Below w.heap.size w w' := by
  obtain ⟨i0, hi0, hj0, hj1, hj2⟩ := info_parts strInf
  have HI := Lib.hid (And.intro hi0 (And.intro hj0 (And.intro hj1 hj2))); clear hi0 hj0 hj1 hj2
  have HL := Lib.hid hl; clear hl
  have HX := Lib.hid hX; clear hX
  have HBD := Lib.hid hb; clear hb
  have HTab := Lib.hid hT; clear hT
  obtain ⟨n0, n1⟩ := hn
  have HR0 := Lib.hid (show Res w.heap.size (w.alloc (.cells #[] 9)) 9 1 (some ⟨w.heap.size, 0, none⟩) 0 0 (strRows []) from Res.zero w w.heap.size 9 1 (Nat.le_refl _))
  have HW0 := Lib.hid ((Below.refl w.heap.size w).alloc (Nat.le_refl _) (.cells #[] 9))
  go_enter Tryz.func42, Tryz.ntmps42
  go_wp2
  go_loopw [3, 9] (fun o i wr => ∃ (k c9 : Nat) (B : Option Addr), k ≤ n ∧ i = .int .i64 k ∧ o = .slice B k c9 ∧ Hid (Res w.heap.size wr 9 1 B k c9 (strRows ((xs.take k).map decL))) ∧ Hid (Below w.heap.size w wr)) (fun _ i _ => n - (intOf i).toNat)
  case atStart => exact ⟨0, 0, _, by omega, rfl, rfl, HR0, HW0⟩
  case round =>
    obtain ⟨k, cB, B, hk, rfl, rfl, HR, HB⟩ := hrel
    clear HR0 HW0
    by_cases hlt : k < n
    · obtain ⟨x, hx⟩ := get_of_lt (xs := xs) (k := k) (by rw [HL.out]; exact hlt)
      obtain ⟨x0, x1⟩ := HBD.out x (List.mem_of_getElem? hx)
      have hki : (k : Int) < (n : Int) := by omega
      obtain ⟨ad, rfl, had, hcl⟩ := (HX.out.past HB.out).int_at hx
      have HTK := Lib.hid (show (xs.take (k + 1)).map decL = (xs.take k).map decL ++ [decL x] by rw [List.take_add_one, hx]; simp)
      clear hx
      go_wp2_with fail
      refine (impl_decimal_any x (by unfold In64; omega) wr (HTab.out.past HB.out)).mono ?_
      rw [itoa_pos x0]
      rintro e w2 ⟨rfl, hb2⟩
      have HB2 := Lib.hid (HB.out.trans (hb2.mono HB.out.size))
      have HR2 := Lib.hid (HR.out.past hb2)
      clear hb2 HB HR
      have hbsz := HB2.out.size
      go_wp2_with (at_builtin; refine wpList_append_row_at _ rfl _ _ _ rfl w.heap.size 9 i0 _ 1 16 Tryz.underlying72 HI.out.1 HI.out.2.1 HI.out.2.2.1 HI.out.2.2.2 rfl (by decide) (by decide) B k cB _ rfl HR2.out [.string (S (decL x))] _ rfl rfl (by simp [Value.oneCell']) (by omega) hbsz ?_; intro A9 c9 w9 hR9 hb9 _ _)
      rw [← strRows_snoc, ← HTK.out] at hR9
      have HR9 := Lib.hid hR9
      have HB9 := Lib.hid (HB2.out.trans hb9)
      clear hR9 hb9
      go_wp2
      go_roundw
      case rel => exact ⟨k + 1, c9, A9, by omega, by go_num, rfl, HR9, HB9⟩
      case measure => simp [intOf]; omega
    · have hkn : k = n := by omega
      subst hkn
      have hxt : xs.take k = xs := List.take_of_length_le (by rw [HL.out]; exact Nat.le_refl _)
      rw [hxt] at HR
      clear hxt
      obtain ⟨g, rfl, hg0, hg1, hcw⟩ := words_of HR.out (by omega)
      have hLl : ((xs.map decL).map S).length = k := by rw [List.length_map, List.length_map, HL.out]
      have hjl : Lib.join (((xs.map decL).map S).map (·.data.toList)) (⟨#[32]⟩ : ByteArray).data.toList = numsL xs := by
        unfold numsL
        congr 1
        rw [List.map_map]
        conv => rhs; rw [← List.map_id (xs.map decL)]
        exact List.map_congr_left (fun p _ => S_list p)
      have hnl := nums_size (xs := xs) (by rw [HL.out]; omega) HBD.out xs.length
      rw [List.take_length, S_size] at hnl
      have HJ := Lib.hid (Tryz.strings_Join g 0 cB ((xs.map decL).map S) ⟨#[32]⟩ wr (fun j y hy => by
        rw [List.getElem?_map] at hy
        cases hp : (xs.map decL)[j]? with
        | none => rw [hp] at hy; cases hy
        | some p =>
          rw [hp] at hy
          injection hy with hy
          rw [Nat.zero_add, ← hy]
          exact hcw j p hp) hg1 (by rw [hLl]; omega) (by rw [hLl]; exact cap_of HR.out) (by rw [hjl]; omega))
      rw [hjl, hLl] at HJ
      clear hjl hnl hcw hLl
      go_wp2_with fail
      refine HJ.out.mono ?_
      rintro e w2 ⟨rfl, hb2⟩
      have HB2 := Lib.hid (HB.out.trans (hb2.mono HB.out.size))
      go_wp2
      go_ret
      exact ⟨rfl, HB2.out⟩

theorem spec_l01Number_any (x : Int) (w : World) (h0 : 0 ≤ x) (h1 : x ≤ 1000000000000000) :
    Calls Tryz.prog 82 #[.int .i64 x] w fun e w' => e = .returned (.string (S (decL x))) ∧ Below w.heap.size w w' := by
  go_enter Tryz.func82, Tryz.ntmps82
  go_wp2_with fail
  refine (spec_l01Dec_int x h0 (by omega) w).mono ?_
  rintro e w1 ⟨rfl, hb1⟩
  go_wp2
  go_ret
  exact ⟨rfl, hb1⟩
set_option maxHeartbeats 4000000 in
theorem spec_l01Join_any (A : Option Addr) (n cap : Nat) (xs : List Int) (w : World) (hl : xs.length = n) (hn : 1 ≤ n ∧ n ≤ 130) (hX : Rd w w.heap.size A 1 (intRows xs)) (hb : ∀ x ∈ xs, 0 ≤ x ∧ x ≤ 1000000) :
    Calls Tryz.prog 48 #[.slice A n cap, .string ⟨#[32]⟩] w fun e w' => e = .returned (.string (S (numsL xs))) ∧ Below w.heap.size w w' := by
  have HL := Lib.hid hl; clear hl
  have HX := Lib.hid hX; clear hX
  have HBD := Lib.hid hb; clear hb
  obtain ⟨n0, n1⟩ := hn
  have HSZ := Lib.hid (fun k => nums_size (xs := xs) (by rw [HL.out]; omega) HBD.out k)
  go_enter Tryz.func48, Tryz.ntmps48
  go_wp2
  go_loopw [5, 6] (fun o i wr => ∃ k : Nat, k ≤ n ∧ i = .int .i64 k ∧ o = .string (S (numsL (xs.take k))) ∧ Hid (Below w.heap.size w wr)) (fun _ i _ => n - (intOf i).toNat)
  case atStart => exact ⟨0, by omega, rfl, rfl, Lib.hid (Below.refl _ _)⟩
  case round =>
    obtain ⟨k, hk, rfl, rfl, HB⟩ := hrel
    by_cases hlt : k < n
    · obtain ⟨x, hx⟩ := get_of_lt (xs := xs) (k := k) (by rw [HL.out]; exact hlt)
      obtain ⟨x0, x1⟩ := HBD.out x (List.mem_of_getElem? hx)
      have hki : (k : Int) < (n : Int) := by omega
      obtain ⟨ad, rfl, had, hcl⟩ := (HX.out.past HB.out).int_at hx
      have hz := HSZ.out k
      have hzx : (S (decL x)).size ≤ 17 := decS_len (by omega)
      have HNB := Lib.hid (fun X => spec_l01Number_any x X x0 (by omega))
      rcases Nat.eq_zero_or_pos k with hk0 | hk0
      · subst hk0
        have HQ := Lib.hid (show S (numsL (xs.take (0 + 1))) = S (numsL (xs.take 0)) ++ S (decL x) from by
          rw [nums_take0 hx, S_append]; rfl)
        generalize S (numsL (xs.take 0)) = OUT at hz HQ ⊢
        generalize S (decL x) = DX at hzx HQ HNB
        change Hid _ at HQ
        change Hid _ at HNB
        have u1 : ¬ 9223372036854775807 < OUT.size + DX.size := by omega
        have hc0 : wr.cell? ad = some (.int .i64 x) := by have := hcl; rwa [Addr.add_zero'] at this
        clear hx
        go_wp2_with fail
        refine (HNB.out _).mono ?_
        rintro e w2 ⟨rfl, hb2⟩
        have HB2 := Lib.hid (HB.out.trans (hb2.mono HB.out.size))
        go_wp2
        go_roundw
        case rel => exact ⟨0 + 1, by omega, by go_num, by rw [HQ.out], HB2⟩
        case measure => simp [intOf]; omega
      · have HQ := Lib.hid (show S (numsL (xs.take (k + 1))) = S (numsL (xs.take k)) ++ (⟨#[32]⟩ : ByteArray) ++ S (decL x) from by
          rw [nums_take hx hk0, ← S_append, ← S_append]; rfl)
        generalize S (numsL (xs.take k)) = OUT at hz HQ ⊢
        generalize S (decL x) = DX at hzx HQ HNB
        change Hid _ at HQ
        change Hid _ at HNB
        have hk0i : (0 : Int) < (k : Int) := by omega
        have u1 : ¬ 9223372036854775807 < OUT.size + 1 := by omega
        have u2 : ¬ 9223372036854775807 < OUT.size + 1 + DX.size := by omega
        clear hx
        go_wp2_with fail
        refine (HNB.out _).mono ?_
        rintro e w2 ⟨rfl, hb2⟩
        have HB2 := Lib.hid (HB.out.trans (hb2.mono HB.out.size))
        go_wp2
        go_roundw
        case rel => exact ⟨k + 1, by omega, by go_num, by rw [HQ.out], HB2⟩
        case measure => simp [intOf]; omega
    · have hkn : k = n := by omega
      subst hkn
      have hxt : xs.take k = xs := List.take_of_length_le (by rw [HL.out]; exact Nat.le_refl _)
      rw [hxt]
      go_wp2
      go_ret
      exact ⟨rfl, HB.out⟩
end Go.Proofs.YtkdfdbcpbgganaaGreatDoor
end

/- Life tables are read: ReadTable of the program and of the reference. -/
section
namespace Go.Proofs.YtkdfdbcpbgganaaGreatDoor
open Go.RowKit Go.BigFrame

def TabE (s : ByteArray) (w w' : World) (e : Ending) : Prop := ∃ (f : Int) (A : Option Addr) (n c : Nat) (b : Bool) (xs : List Int), e = .returned (.tuple #[.agg #[.int .i64 f, .slice A n c], .bool b]) ∧ LiesT w' A n xs ∧ n ≤ c ∧ In64 f ∧
  (b = true → tableB f xs = true ∧ s.data.toList = numsL (f :: xs)) ∧ (b = false → f = 0 ∧ xs = []) ∧ (∀ (g : Int) (ys : List Int), tableB g ys = true → s.data.toList = numsL (g :: ys) → f = g ∧ xs = ys ∧ b = true) ∧ Below w.heap.size w w'
theorem table_words {g : Int} {ys : List Int} (h : tableB g ys = true) {l : List UInt8} (hl : l = numsL (g :: ys)) : cutL 32 l = (g :: ys).map decL ∧ (∀ m ∈ g :: ys, 0 ≤ m ∧ m ≤ 9999999999999) ∧ 3 ≤ (g :: ys).length := by
  obtain ⟨⟨g0, g1⟩, ⟨y0, y1⟩, hy⟩ := table_bounds h
  refine ⟨by rw [hl]; exact cut_nums _ (by simp), ?_, by rw [List.length_cons]; omega⟩
  intro m hm
  rcases List.mem_cons.1 hm with rfl | hm
  · omega
  · have := hy m hm; omega
theorem nums_is {l : List UInt8} {ns : List Int} (h : Nums (cutL 32 l) ns (cutL 32 l).length) {g : Int} {ys : List Int} (ht : tableB g ys = true) (hl : l = numsL (g :: ys)) : ns = g :: ys := by
  obtain ⟨h1, h2, _⟩ := table_words ht hl
  have h3 := h.forth _ h2 h1
  rw [h3, h1, List.length_map, List.take_length]
theorem nums_text {l : List UInt8} {f : Int} {xs : List Int} (h : Nums (cutL 32 l) (f :: xs) (cutL 32 l).length) (ht : tableB f xs = true) : l = numsL (f :: xs) := by
  obtain ⟨⟨f0, _⟩, _, hx⟩ := table_bounds ht
  apply words_nums
  apply List.ext_getElem?
  intro j
  rw [List.getElem?_map]
  have hlen := h.len
  rcases Nat.lt_or_ge j (f :: xs).length with hj | hj
  · obtain ⟨x, hxj⟩ := get_of_lt hj
    obtain ⟨p, hp⟩ := get_of_lt (xs := cutL 32 l) (k := j) (by omega)
    have h0 : 0 ≤ x := by
      rcases List.mem_cons.1 (List.mem_of_getElem? hxj) with h9 | h9
      · omega
      · exact (hx x h9).1
    rw [hxj, hp, h.back j x p hxj hp h0]; rfl
  · rw [List.getElem?_eq_none (by omega), List.getElem?_eq_none hj]; rfl
theorem drop_rows (f : Int) (xs : List Int) : (intRows (f :: xs)).drop 1 = intRows xs := by simp [intRows]
theorem rd_tail {w : World} {B g : Nat} {f : Int} {xs : List Int} (h : Rd w B (some ⟨g, 0, none⟩) 1 (intRows (f :: xs))) : Rd w B (some ⟨g, 1, none⟩) 1 (intRows xs) := by
  have h1 := h.cut 1
  rw [drop_rows] at h1
  simpa [add_none] using h1
theorem lies_far {w : World} {g b n o1 : Nat} {xs : List Int} (h : LiesT w (some ⟨g, o1, none⟩) n xs) (hne : b < g) (u v : Value) : LiesT ((w.setCell ⟨b, 0, none⟩ u).setCell ⟨b, 1, none⟩ v) (some ⟨g, o1, none⟩) n xs := by
  refine ⟨h.len, h.small, ?_, h.fits⟩
  rcases h.rd with h1 | ⟨ad, e, hb, hc⟩
  · exact .inl h1
  · injection e with e
    subst e
    refine .inr ⟨⟨g, o1, none⟩, rfl, by simpa using hb, fun k r hr => ⟨(hc k r hr).1, fun j x hx => ?_⟩⟩
    have h2 := (hc k r hr).2 j x hx
    rw [add_none] at h2 ⊢
    rw [World.cell?_setCell_other _ _ _ _ (fun e => by have := congrArg Addr.block e; simp at this; omega), World.cell?_setCell_other _ _ _ _ (fun e => by have := congrArg Addr.block e; simp at this; omega)]
    exact h2
theorem liesT_nil (w : World) : LiesT w none 0 [] := ⟨rfl, by omega, .inl rfl, by simp⟩

end Go.Proofs.YtkdfdbcpbgganaaGreatDoor
end

/- What the law on life tables draws. -/
section
namespace Go.Proofs.YtkdfdbcpbgganaaGreatDoor
open Go.RowKit Go.BigFrame

def TxtE (w w' : World) (e : Ending) : Prop := ∃ r : ByteArray, e = .returned (.string r) ∧ r.size ≤ 20000 ∧ Below w.heap.size w w'
theorem ints_lies {B n c : Nat} {w : World} {A : Option Addr} (h : IntsBy B w A n c 0 1000001) (hn : n ≤ 1000) : ∃ xs : List Int, LiesT w A n xs ∧ n ≤ c := by
  obtain ⟨xs, hR, hf⟩ := h
  exact ⟨xs, ⟨by have := hR.len; rwa [intRows_length] at this, by omega, hR.rd, fun x hx => by have := hf x hx; unfold In64; omega⟩, cap_of hR⟩
theorem ints_far {B b n c : Nat} {lo hi : Int} {w : World} {A : Option Addr} (h : IntsBy B w A n c lo hi) (hb : b < B) (u v : Value) : IntsBy B ((w.setCell ⟨b, 0, none⟩ u).setCell ⟨b, 1, none⟩ v) A n c lo hi := by
  obtain ⟨xs, hR, hf⟩ := h
  refine ⟨xs, hR.keep fun g hg => ?_, hf⟩
  have := (hR.lt hg).1
  exact (Below.heap_setCell _ _ _ _ (by show g ≠ b; omega)).trans (Below.heap_setCell _ _ _ _ (by show g ≠ b; omega))
theorem textP_size (f : Int) (xs : List Int) : (S (textP f xs)).size ≤ 3000 := by
  unfold textP
  split
  · rename_i h
    obtain ⟨⟨f0, f1⟩, ⟨x0, x1⟩, hx⟩ := table_bounds h
    have h1 := nums_size (xs := f :: xs) (by rw [List.length_cons]; omega) (fun y hy => by
      rcases List.mem_cons.1 hy with rfl | hy
      · omega
      · exact hx y hy) (f :: xs).length
    rwa [List.take_length] at h1
  · show (0 : Nat) ≤ 3000; omega
def DrawTE (w w' : World) (e : Ending) : Prop := ∃ (f : Int) (A : Option Addr) (n c : Nat) (a : Int), e = .returned (.tuple #[.agg #[.int .i64 f, .slice A n c], .int .i64 a]) ∧ IntsBy w.heap.size w' A n c 0 1000001 ∧ (1 ≤ n ∧ n ≤ 30) ∧ (-1 ≤ f ∧ f ≤ 101) ∧ (-2000 ≤ a ∧ a ≤ 4000) ∧ Below w.heap.size w w'
end Go.Proofs.YtkdfdbcpbgganaaGreatDoor
end

/- The sum for a premium: a search by halves. Plain. -/
section
namespace Go.Proofs.YtkdfdbcpbgganaaGreatDoor
open Go.RowKit Go.BigFrame

def srch (f : Int → Bool) : Nat → Int → Int → Int
  | 0, lo, _ => lo
  | k + 1, lo, hi => if lo < hi then (if f ((lo + hi + 1) / 2) = true then srch f k ((lo + hi + 1) / 2) hi else srch f k lo ((lo + hi + 1) / 2 - 1)) else lo
theorem srch_at (f : Int → Bool) (k : Nat) (x : Int) : srch f k x x = x := by
  cases k with
  | zero => rfl
  | succ k => unfold srch; rw [if_neg (by omega)]
def found (f : Int → Bool) : Int := srch f 40 0 100000000
def Sr (f : Int → Bool) (lo hi : Int) : Prop := ∃ k : Nat, found f = srch f k lo hi ∧ hi - lo < 2 ^ k
theorem Sr.start (f : Int → Bool) : Sr f 0 100000000 := ⟨40, rfl, by decide⟩
theorem Sr.step {f : Int → Bool} {lo hi : Int} (h : Sr f lo hi) (hl : lo < hi) : (f ((lo + hi + 1) / 2) = true → Sr f ((lo + hi + 1) / 2) hi) ∧ (f ((lo + hi + 1) / 2) = false → Sr f lo ((lo + hi + 1) / 2 - 1)) := by
  obtain ⟨k, e, hk⟩ := h
  match k, e, hk with
  | 0, _, hk => simp at hk; omega
  | k + 1, e, hk =>
    have hp : (2 : Int) ^ (k + 1) = 2 * 2 ^ k := by rw [Int.pow_succ]; omega
    rw [hp] at hk
    unfold srch at e
    rw [if_pos hl] at e
    refine ⟨fun hf => ⟨k, by rw [e, if_pos hf], by omega⟩, fun hf => ⟨k, by rw [e, if_neg (by rw [hf]; decide)], by omega⟩⟩
theorem Sr.stop {f : Int → Bool} {x : Int} (h : Sr f x x) : found f = x := by
  obtain ⟨k, e, _⟩ := h
  rw [e, srch_at]
theorem srch_ok (f : Int → Bool) : ∀ (k : Nat) (lo hi : Int), 0 ≤ lo → lo ≤ hi → hi ≤ 100000000 → hi - lo < 2 ^ k → (lo = 0 ∨ f lo = true) → (hi = 100000000 ∨ f (hi + 1) = false) →
    (0 ≤ srch f k lo hi ∧ srch f k lo hi ≤ 100000000) ∧ (srch f k lo hi = 0 ∨ f (srch f k lo hi) = true) ∧ (srch f k lo hi = 100000000 ∨ f (srch f k lo hi + 1) = false)
  | 0, lo, hi, h0, h1, h2, hk, hl, hh => by
    have e : hi = lo := by simp at hk; omega
    subst e
    exact ⟨⟨h0, h2⟩, hl, hh⟩
  | k + 1, lo, hi, h0, h1, h2, hk, hl, hh => by
    have hp : (2 : Int) ^ (k + 1) = 2 * 2 ^ k := by rw [Int.pow_succ]; omega
    rw [hp] at hk
    unfold srch
    by_cases hlt : lo < hi
    · rw [if_pos hlt]
      cases hf : f ((lo + hi + 1) / 2)
      · rw [if_neg (by decide)]
        exact srch_ok f k _ _ h0 (by omega) (by omega) (by omega) hl (.inr (by rw [Int.sub_add_cancel]; exact hf))
      · rw [if_pos rfl]
        exact srch_ok f k _ _ (by omega) (by omega) h2 (by omega) (.inr hf) hh
    · rw [if_neg hlt]
      have e : hi = lo := by omega
      subst e
      exact ⟨⟨h0, h2⟩, hl, hh⟩
theorem found_ok (f : Int → Bool) : (0 ≤ found f ∧ found f ≤ 100000000) ∧ (found f = 0 ∨ f (found f) = true) ∧ (found f = 100000000 ∨ f (found f + 1) = false) :=
  srch_ok f 40 0 100000000 (by omega) (by omega) (by omega) (by decide) (.inl rfl) (.inl rfl)

def Policy.at_ (p : Policy) (m : Int) : Policy := ⟨p.kind, p.age, p.years, m, p.load⟩
theorem pol_at {b : Bas} {p : Policy} (h : polB b p = true) {m : Int} (h0 : 1 ≤ m) (h1 : m ≤ 100000000) : polB b (p.at_ m) = true := by
  unfold polB assurB at h ⊢
  simp only [Bool.and_eq_true] at h ⊢
  obtain ⟨a, ⟨b1, b2, b3, _, b5, b6, b7⟩, c, d⟩ := h
  exact ⟨a, ⟨b1, b2, b3, inR_true.2 ⟨h0, h1⟩, b5, b6, b7⟩, c, d⟩
def costB (b : Bas) (p : Policy) (prem m : Int) : Bool := decide (officeP b (p.at_ m) ≤ prem)
def sumP (b : Bas) (p : Policy) (prem : Int) : Int := found (costB b p prem)
def sumC (b : Bas) (p : Policy) (prem : Int) : Int := if polB b p = true then (if inR prem 1 100000000 = true then (if sumP b p prem = 0 then 4 else 0) else 2) else 1
def sumV (b : Bas) (p : Policy) (prem : Int) : Int := if sumC b p prem = 0 then sumP b p prem else 0
theorem sum_facts {b : Bas} {p : Policy} {prem : Int} (h : sumC b p prem = 0) : polB b p = true ∧ (1 ≤ sumV b p prem ∧ sumV b p prem ≤ 100000000) ∧ officeP b (p.at_ (sumV b p prem)) ≤ prem ∧ (sumV b p prem ≠ 100000000 → prem < officeP b (p.at_ (sumV b p prem + 1))) := by
  have hv : sumV b p prem = sumP b p prem := if_pos h
  have hp : polB b p = true := by
    unfold sumC at h
    split at h
    · assumption
    · omega
  have hn : sumP b p prem ≠ 0 := by
    unfold sumC at h
    rw [if_pos hp] at h
    split at h
    · split at h
      · omega
      · assumption
    · omega
  obtain ⟨⟨f0, f1⟩, f2, f3⟩ := found_ok (costB b p prem)
  rw [hv]
  have e : sumP b p prem = found (costB b p prem) := rfl
  rw [e] at hn ⊢
  generalize found (costB b p prem) = s at *
  refine ⟨hp, ⟨by omega, f1⟩, ?_, fun h9 => ?_⟩
  · rcases f2 with f2 | f2
    · exact absurd f2 hn
    · unfold costB at f2; simpa using f2
  · rcases f3 with f3 | f3
    · exact absurd f3 h9
    · unfold costB at f3; simpa using f3
end Go.Proofs.YtkdfdbcpbgganaaGreatDoor
end

/- Sickness tables: IsSickTable of the program and of the reference. -/
section
namespace Go.Proofs.YtkdfdbcpbgganaaGreatDoor
open Go.RowKit Go.BigFrame

def sickB (f : Int) (xs : List Int) : Bool := inR f 0 100 && (inR xs.length 1 120 && allR xs 0 52000)
set_option maxHeartbeats 1000000 in
theorem impl_IsSickTable_any (f : Int) (A : Option Addr) (n cap : Nat) (xs : List Int) (w : World) (hT : LiesT w A n xs) :
    Calls Tryz.prog 17 #[.agg #[.int .i64 f, .slice A n cap]] w fun e w' => e = .returned (.bool (sickB f xs)) ∧ Below w.heap.size w w' := by
  have hbw : Below w.heap.size w (w.alloc (.cells #[.int .i64 f, .slice A n cap] 28)) := (Below.refl _ w).alloc (Nat.le_refl _) _
  have HT := Lib.hid (hT.past hbw); clear hT
  have hn := HT.out.small
  have HL := Lib.hid HT.out.len
  cases h1 : inR f 0 100
  · have Q := Lib.hid (show sickB f xs = false by unfold sickB; rw [h1]; rfl)
    go_enter Tryz.func17, Tryz.ntmps17
    go_wp2_with (first | (go_at_call 50; refine (impl_inRange_any _ _ _ _).mono ?_; rintro e w' ⟨rfl, rfl⟩))
    go_ret
    exact ⟨by rw [Q.out]; rfl, hbw⟩
  cases h2 : inR (n : Int) 1 120
  · have Q := Lib.hid (show sickB f xs = false by unfold sickB; rw [h1, HL.out, h2]; rfl)
    go_enter Tryz.func17, Tryz.ntmps17
    go_wp2_with (first | (go_at_call 50; refine (impl_inRange_any _ _ _ _).mono ?_; rintro e w' ⟨rfl, rfl⟩) | (go_at_call 51; refine (intsLen_any A n cap _ hn).mono ?_; rintro e w' ⟨rfl, rfl⟩))
    go_ret
    exact ⟨by rw [Q.out]; rfl, hbw⟩
  · have Q := Lib.hid (show sickB f xs = allR xs 0 52000 by unfold sickB; rw [h1, HL.out, h2]; rfl)
    go_enter Tryz.func17, Tryz.ntmps17
    go_wp2_with (first | (go_at_call 50; refine (impl_inRange_any _ _ _ _).mono ?_; rintro e w' ⟨rfl, rfl⟩) | (go_at_call 51; refine (intsLen_any A n cap _ hn).mono ?_; rintro e w' ⟨rfl, rfl⟩) | (go_at_call 52; refine (impl_allIn_any A n cap xs 0 52000 _ HL.out hn HT.out.rd).mono ?_; rintro e w' ⟨rfl, hb⟩))
    go_ret
    exact ⟨by rw [Q.out]; rfl, hbw.trans (hb.mono (by simp))⟩
set_option maxHeartbeats 1000000 in
theorem spec_IsSickTable_any (f : Int) (A : Option Addr) (n cap : Nat) (xs : List Int) (w : World) (hT : LiesT w A n xs) :
    Calls Tryz.prog 47 #[.agg #[.int .i64 f, .slice A n cap]] w fun e w' => e = .returned (.bool (sickB f xs)) ∧ Below w.heap.size w w' := by
  have hbw : Below w.heap.size w (w.alloc (.cells #[.int .i64 f, .slice A n cap] 28)) := (Below.refl _ w).alloc (Nat.le_refl _) _
  have HT := Lib.hid (hT.past hbw); clear hT
  have hn := HT.out.small
  have HL := Lib.hid HT.out.len
  cases h1 : inR f 0 100
  · have Q := Lib.hid (show sickB f xs = false by unfold sickB; rw [h1]; rfl)
    go_enter Tryz.func47, Tryz.ntmps47
    go_wp2_with (first | (go_at_call 72; refine (spec_l01In_any _ _ _ _).mono ?_; rintro e w' ⟨rfl, rfl⟩))
    go_ret
    exact ⟨by rw [Q.out]; rfl, hbw⟩
  by_cases h0 : n < 1
  · have h0i : ¬ (1 : Int) ≤ (n : Int) := by omega
    have Q := Lib.hid (show sickB f xs = false by
      have h2 : inR (xs.length : Int) 1 120 = false := by
        cases h : inR (xs.length : Int) 1 120
        · rfl
        · have h3 := inR_true.1 h; have h4 := HL.out; omega
      unfold sickB; rw [h1, h2]; rfl)
    go_enter Tryz.func47, Tryz.ntmps47
    go_wp2_with (first | (go_at_call 72; refine (spec_l01In_any _ _ _ _).mono ?_; rintro e w' ⟨rfl, rfl⟩))
    go_ret
    exact ⟨by rw [Q.out]; rfl, hbw⟩
  · have h0i : (1 : Int) ≤ (n : Int) := by omega
    have Q := Lib.hid (show sickB f xs = (allR xs 0 52000 && decide ((n : Int) ≤ 120)) by
      unfold sickB
      rw [h1, HL.out]
      cases h : inR (n : Int) 1 120
      · have h5 : decide ((n : Int) ≤ 120) = false := by
          rw [decide_eq_false_iff_not]
          intro h6
          have h7 := inR_true.2 (show (1 : Int) ≤ n ∧ (n : Int) ≤ 120 from ⟨by omega, h6⟩)
          rw [h] at h7; cases h7
        rw [h5]; simp
      · have h5 := (inR_true.1 h).2
        rw [decide_eq_true h5]; simp)
    go_enter Tryz.func47, Tryz.ntmps47
    go_wp2_with (first | (go_at_call 72; refine (spec_l01In_any _ _ _ _).mono ?_; rintro e w' ⟨rfl, rfl⟩) | (go_at_call 63; refine (spec_l01Within_any A n cap xs 120 0 52000 _ HL.out hn HT.out.rd).mono ?_; rintro e w' ⟨rfl, rfl⟩))
    go_ret
    exact ⟨by rw [Q.out]; rfl, hbw⟩
end Go.Proofs.YtkdfdbcpbgganaaGreatDoor
end

/- Sickness tables: the weeks at an age. -/
section
namespace Go.Proofs.YtkdfdbcpbgganaaGreatDoor
open Go.RowKit Go.BigFrame

def weeksP (f : Int) (xs : List Int) (age : Int) : Int := if f ≤ age then lv xs (age - f).toNat else 0
set_option maxHeartbeats 1000000 in
theorem spec_l09Weeks_any (f : Int) (A : Option Addr) (n cap : Nat) (xs : List Int) (age : Int) (w : World) (hT : LiesT w A n xs) (hf : 0 ≤ f ∧ f ≤ 100) (ha : 0 ≤ age ∧ age ≤ 1000) :
    Calls Tryz.prog 73 #[.agg #[.int .i64 f, .slice A n cap], .int .i64 age] w fun e w' => e = .returned (.int .i64 (weeksP f xs age)) ∧ Below w.heap.size w w' := by
  have hbw : Below w.heap.size w (w.alloc (.cells #[.int .i64 f, .slice A n cap] 28)) := (Below.refl _ w).alloc (Nat.le_refl _) _
  have HT := Lib.hid (hT.past hbw); clear hT
  have hn := HT.out.small
  have HL := Lib.hid HT.out.len
  obtain ⟨f0, f1⟩ := hf
  obtain ⟨a0, a1⟩ := ha
  cases h : inR (age - f) 0 ((n : Int) - 1)
  · have Q := Lib.hid (show weeksP f xs age = 0 by
      unfold weeksP
      split
      · rw [lv_past]
        rw [HL.out]
        rcases Nat.lt_or_ge (age - f).toNat n with h1 | h1
        · have h2 := inR_true.2 (show (0 : Int) ≤ age - f ∧ age - f ≤ (n : Int) - 1 from ⟨by omega, by omega⟩)
          rw [h] at h2; cases h2
        · exact h1
      · rfl)
    go_enter Tryz.func73, Tryz.ntmps73
    go_wp2_with (first | (go_at_call 72; refine (spec_l01In_any _ _ _ _).mono ?_; rintro e w' ⟨rfl, rfl⟩))
    go_ret
    exact ⟨by rw [Q.out]; rfl, hbw⟩
  · obtain ⟨h1, h2⟩ := inR_true.1 h
    obtain ⟨k, hk⟩ := Int.eq_ofNat_of_zero_le h1
    have Q := Lib.hid (show weeksP f xs age = lv xs k by unfold weeksP; rw [if_pos (by omega), show (age - f).toNat = k by omega])
    obtain ⟨ad, rfl, had, hck⟩ := HT.out.at_ (k := k) (by omega)
    have hkn : (k : Int) < (n : Int) := by omega
    have h3 : inR (k : Int) 0 ((n : Int) - 1) = true := inR_true.2 ⟨by omega, by omega⟩
    go_enter Tryz.func73, Tryz.ntmps73
    go_wp2_with (first | (go_at_call 72; refine (spec_l01In_any _ _ _ _).mono ?_; rintro e w' ⟨rfl, rfl⟩))
    go_ret
    exact ⟨by rw [Q.out]; rfl, hbw⟩
end Go.Proofs.YtkdfdbcpbgganaaGreatDoor
end

/- Sickness benefits: codes, values and premiums. Plain. -/
section
namespace Go.Proofs.YtkdfdbcpbgganaaGreatDoor
open Go.RowKit Go.BigFrame

theorem lv_range {xs : List Int} {lo hi : Int} (h : allR xs lo hi = true) (h0 : lo ≤ 0 ∧ 0 ≤ hi) (k : Nat) : lo ≤ lv xs k ∧ lv xs k ≤ hi := by
  rcases Nat.lt_or_ge k xs.length with hk | hk
  · have h2 := List.mem_of_getElem? (lv_some hk)
    unfold allR at h
    exact inR_true.1 (List.all_eq_true.1 h _ h2)
  · rw [lv_past hk]; exact h0
structure SickOk (f : Int) (xs : List Int) : Prop where
  first0 : 0 ≤ f
  first1 : f ≤ 100
  len0 : 1 ≤ xs.length
  len1 : xs.length ≤ 120
  fit : ∀ x ∈ xs, 0 ≤ x ∧ x ≤ 52000
  week : ∀ age, 0 ≤ weeksP f xs age ∧ weeksP f xs age ≤ 52000
theorem sick_ok {f : Int} {xs : List Int} (h : sickB f xs = true) : SickOk f xs := by
  unfold sickB at h
  simp only [Bool.and_eq_true] at h
  obtain ⟨h1, h2, h3⟩ := h
  obtain ⟨a1, a2⟩ := inR_true.1 h1
  obtain ⟨b1, b2⟩ := inR_true.1 h2
  refine ⟨a1, a2, by omega, by omega, ?_, ?_⟩
  · intro x hx
    unfold allR at h3
    exact inR_true.1 (List.all_eq_true.1 h3 _ hx)
  · intro age
    unfold weeksP
    split
    · exact lv_range h3 (by omega) _
    · omega
theorem sumF_bound {f : Nat → Int} {B : Int} (hf : ∀ k, 0 ≤ f k ∧ f k ≤ B) : ∀ k m : Nat, 0 ≤ sumF f k m ∧ sumF f k m ≤ (m : Int) * B
  | _, 0 => by simp [sumF]
  | k, m + 1 => by
    have h1 := sumF_bound hf (k + 1) m
    have h2 := hf k
    have h3 : ((m + 1 : Nat) : Int) * B = (m : Int) * B + B := by rw [Int.natCast_add, Int.add_mul]; simp
    show 0 ≤ f k + sumF f (k + 1) m ∧ f k + sumF f (k + 1) m ≤ _
    rw [h3]; omega

/-- the arguments of a benefit -/
structure Ben where
  f : Int
  xs : List Int
  g : Int
  ws : List Int
  rate : Int
  age : Int
  n : Int
  pay : Int
def Ben.ix (b : Ben) : Nat := (b.age - b.f).toNat
def Ben.in_ (b : Ben) : Bool := inR b.n 1 60 && inR b.pay 1 100000
def Ben.code (b : Ben) : Int := if sickB b.g b.ws = true then code6 b.f b.xs b.rate b.age b.in_ b.n else 1
def Ben.d (b : Ben) (k : Nat) : Int := dC b.xs b.rate (b.ix + k)
def Ben.week (b : Ben) (k : Nat) : Int := weeksP b.g b.ws (b.age + (k : Int))
def Ben.term (b : Ben) (k : Nat) : Int := upP (b.pay * b.week k) (b.d k) (1000 * b.d 0)
def Ben.val (b : Ben) : Int := sumF b.term 0 b.n.toNat
def Ben.paid (b : Ben) : Int := nC b.xs b.rate b.ix - nC b.xs b.rate (b.ix + b.n.toNat)
def Ben.prem (b : Ben) : Int := upP b.val (b.d 0) b.paid
/-- what is handed on -/
def Ben.v (b : Ben) : Int := if b.code = 0 then b.val else 0
def Ben.p (b : Ben) : Int := if b.code = 0 then b.prem else 0
structure BenOk (b : Ben) : Prop where
  tab : TabOk b.f b.xs
  tabB : tableB b.f b.xs = true
  sickT : sickB b.g b.ws = true
  sick : SickOk b.g b.ws
  rate0 : 0 ≤ b.rate
  rate1 : b.rate ≤ 200
  age0 : b.f ≤ b.age
  n0 : 1 ≤ b.n
  n1 : b.n ≤ 60
  end1 : b.age + b.n ≤ 150
  pay0 : 1 ≤ b.pay
  pay1 : b.pay ≤ 100000
  d0 : 1 ≤ b.d 0
theorem ben_ok {b : Ben} (h : b.code = 0) : BenOk b := by
  unfold Ben.code at h
  split at h
  rotate_left
  · omega
  rename_i h1
  unfold code6 at h
  split at h
  rotate_left
  · rename_i h2; exact absurd h h2
  rename_i h2
  obtain ⟨T, ⟨r0, r1⟩, a0, a1⟩ := code5_ok h2
  have ht : tableB b.f b.xs = true := by
    unfold code5 at h2
    split at h2
    · assumption
    · omega
  split at h
  rotate_left
  · omega
  rename_i h3
  obtain ⟨h4, h5, h6⟩ := h3
  unfold Ben.in_ at h4
  rw [Bool.and_eq_true] at h4
  obtain ⟨n0, n1⟩ := inR_true.1 h4.1
  obtain ⟨p0, p1⟩ := inR_true.1 h4.2
  split at h
  · omega
  rename_i h7
  have h8 := (dC_bound T r0 (b.age - b.f).toNat).1
  exact { tab := T, tabB := ht, sickT := h1, sick := sick_ok h1, rate0 := r0, rate1 := r1, age0 := a0, n0 := n0, n1 := n1, end1 := h6, pay0 := p0, pay1 := p1, d0 := by
            show 1 ≤ dC b.xs b.rate ((b.age - b.f).toNat + 0)
            rw [Nat.add_zero]; omega }
theorem ben_code {b : Ben} (h : BenOk b) : b.code = 0 := by
  have n0 := h.n0; have n1 := h.n1; have e := h.end1; have a0 := h.age0
  have h5 : code5 b.f b.xs b.rate b.age = 0 := by
    unfold code5
    rw [if_pos h.tabB, if_pos ⟨inR_true.2 ⟨h.rate0, h.rate1⟩, inR_true.2 ⟨h.age0, by omega⟩⟩]
  unfold Ben.code
  rw [if_pos h.sickT]
  unfold code6
  have hd := h.d0
  unfold Ben.d Ben.ix at hd
  rw [Nat.add_zero] at hd
  rw [if_pos h5, if_pos ⟨by unfold Ben.in_; rw [inR_true.2 ⟨h.n0, h.n1⟩, inR_true.2 ⟨h.pay0, h.pay1⟩]; rfl, inR_true.2 ⟨by omega, by omega⟩, h.end1⟩, if_neg (by omega)]
section
variable {b : Ben} (B : BenOk b)
include B
theorem ben_d (k : Nat) : 0 ≤ b.d k ∧ b.d k ≤ b.d 0 ∧ b.d 0 ≤ 1000000000000000 :=
  ⟨(dC_bound B.tab B.rate0 _).1, by have := dC_anti_add B.tab B.rate0 b.ix k; exact this, (dC_bound B.tab B.rate0 _).2⟩
theorem ben_pay (k : Nat) : 0 ≤ b.pay * b.week k ∧ b.pay * b.week k ≤ 5200000000 := by
  have h1 := B.sick.week (b.age + (k : Int))
  have h2 := B.pay0; have h3 := B.pay1
  have h4 : (0 : Int) ≤ b.pay * b.week k := Int.mul_nonneg (by omega) h1.1
  have h5 : b.pay * b.week k ≤ 100000 * 52000 := Int.mul_le_mul h3 h1.2 h1.1 (by omega)
  exact ⟨h4, by omega⟩
theorem ben_quo (k : Nat) : b.pay * b.week k * b.d k / (1000 * b.d 0) ≤ 5200000000 := by
  have h1 := ben_pay B k
  have h2 := ben_d B k
  have h3 := B.d0
  have := (mul_div_le (m := 1) h1.1 h2.1 (c := 1000 * b.d 0) (by omega) (by omega)).2
  omega
theorem ben_term (k : Nat) : 0 ≤ b.term k ∧ b.term k ≤ 5200000000 := by
  have h1 := ben_pay B k
  have h2 := ben_d B k
  have h3 := B.d0
  have h4 := up_le h1.1 h2.1 (c := 1000 * b.d 0) (by omega) (by omega)
  unfold Ben.term
  omega
theorem ben_part (m : Nat) (hm : m ≤ 60) : 0 ≤ sumF b.term 0 m ∧ sumF b.term 0 m ≤ 312000000000 := by
  have h1 := sumF_bound (ben_term B) 0 m
  have h2 : (m : Int) * 5200000000 ≤ 60 * 5200000000 := Int.mul_le_mul_of_nonneg_right (by omega) (by omega)
  omega
theorem ben_val : 0 ≤ b.val ∧ b.val ≤ 312000000000 := ben_part B _ (by have := B.n1; omega)
theorem ben_paid : b.d 0 ≤ b.paid ∧ b.paid ≤ 120000000000000000 := by
  have h1 := baseF_pos B.tab B.rate0 1 b.ix b.n.toNat (.inr (by have := B.n0; omega))
  have h2 := baseF_bound B.tab B.rate0 1 b.ix b.n.toNat (by have := B.n1; omega)
  have h3 := ben_d B 0
  have e : baseF b.xs b.rate 1 b.ix b.n.toNat = b.paid := by unfold baseF; rw [if_neg (by omega)]; rfl
  rw [e] at h1 h2
  have e2 : dC b.xs b.rate b.ix = b.d 0 := rfl
  rw [e2] at h1 h2
  omega
theorem ben_prem : 0 ≤ b.prem ∧ b.prem ≤ b.val := by
  have h1 := ben_val B
  have h2 := ben_paid B
  have h3 := B.d0
  exact up_le h1.1 (by omega) (by omega) h2.1
theorem ben_pquo : b.val * b.d 0 / b.paid ≤ 312000000000 := by
  have h1 := ben_val B
  have h2 := ben_paid B
  have h3 := B.d0
  have := (mul_div_le (m := 1) h1.1 (x := b.d 0) (c := b.paid) (by omega) (by omega) (by omega)).2
  omega
end
/-- a shorter time -/
def Ben.less (b : Ben) : Ben := { b with n := b.n - 1 }
theorem less_ok {b : Ben} (B : BenOk b) (h : b.n ≠ 1) : BenOk b.less := by
  have n0 := B.n0; have n1 := B.n1; have e := B.end1
  exact { tab := B.tab, tabB := B.tabB, sickT := B.sickT, sick := B.sick, rate0 := B.rate0, rate1 := B.rate1, age0 := B.age0, n0 := by show 1 ≤ b.n - 1; omega, n1 := by show b.n - 1 ≤ 60; omega, end1 := by show b.age + (b.n - 1) ≤ 150; omega, pay0 := B.pay0, pay1 := B.pay1, d0 := B.d0 }
theorem less_val {b : Ben} (B : BenOk b) : b.less.val ≤ b.val := by
  have n0 := B.n0
  obtain ⟨m, hm⟩ : ∃ m : Nat, b.n = (m : Int) + 1 := ⟨(b.n - 1).toNat, by omega⟩
  have e1 : b.less.val = sumF b.term 0 m := by
    show sumF b.less.term 0 (b.n - 1).toNat = _
    rw [show (b.n - 1).toNat = m by omega]; rfl
  have e2 : b.val = sumF b.term 0 m + b.term (0 + m) := by
    unfold Ben.val
    rw [show b.n.toNat = m + 1 by omega]
    exact sumF_snoc _ 0 m
  have := (ben_term B (0 + m)).1
  omega
end Go.Proofs.YtkdfdbcpbgganaaGreatDoor
end

/- Sickness tables: the program's weeks at an age. -/
section
namespace Go.Proofs.YtkdfdbcpbgganaaGreatDoor
open Go.RowKit Go.BigFrame

theorem SickT.size : (Tryz.prog.info? 28).map (·.size) = some 2 := by kernel_rfl
set_option maxHeartbeats 2000000 in
theorem impl_SickTable_weeks_any (f : Int) (A : Option Addr) (n cap : Nat) (xs : List Int) (age : Int) (w : World) (hT : LiesT w A n xs) (hf : 0 ≤ f ∧ f ≤ 100) (ha : 0 ≤ age ∧ age ≤ 1000) :
    Calls Tryz.prog 70 #[.agg #[.int .i64 f, .slice A n cap], .int .i64 age] w fun e w' => e = .returned (.int .i64 (weeksP f xs age)) ∧ Below w.heap.size w w' := by
  have hbw : Below w.heap.size w (w.alloc (.cells #[.int .i64 f, .slice A n cap] 28)) := (Below.refl _ w).alloc (Nat.le_refl _) _
  have HB := Lib.hid (Blk.new w 28 #[.int .i64 f, .slice A n cap])
  have HT := Lib.hid (hT.past hbw); clear hT
  have hn := HT.out.small
  have HL := Lib.hid HT.out.len
  obtain ⟨f0, f1⟩ := hf
  obtain ⟨a0, a1⟩ := ha
  have b0 : (w.alloc (.cells #[.int .i64 f, .slice A n cap] 28)).cell? ⟨w.heap.size, 0, none⟩ = some (.int .i64 f) := HB.out.cell 0
  have b1 : (w.alloc (.cells #[.int .i64 f, .slice A n cap] 28)).cell? ⟨w.heap.size, 1, none⟩ = some (.slice A n cap) := HB.out.cell 1
  have d0 := fun y : Past (w.alloc (.cells #[.int .i64 f, .slice A n cap] 28)) => Past.cell b0 y
  have d1 := fun y : Past (w.alloc (.cells #[.int .i64 f, .slice A n cap] 28)) => Past.cell b1 y
  cases h : inR age f (f + (n : Int) - 1)
  · have Q := Lib.hid (show weeksP f xs age = 0 by
      unfold weeksP
      split
      · rw [lv_past]
        rw [HL.out]
        rcases Nat.lt_or_ge (age - f).toNat n with h1 | h1
        · have h2 := inR_true.2 (show f ≤ age ∧ age ≤ f + (n : Int) - 1 from ⟨by omega, by omega⟩)
          rw [h] at h2; cases h2
        · exact h1
      · rfl)
    go_enter Tryz.func70, Tryz.ntmps70
    go_wp2
    refine wp_region_past (by kernel_rfl) (by kernel_rfl) ?_
    repeat (go_big_quiet_step ((first | (go_at_call 51; exact past_same (intsLen_any A n cap _ hn)) | (go_at_call 50; exact past_same ((impl_inRange_any _ _ _ _).mono (by rw [h]; exact fun _ _ h => h))))))
    refine wpQuiet_nil ?_
    rintro _ ⟨y, rfl⟩
    go_wp2
    go_ret
    exact ⟨by rw [Q.out]; rfl, hbw.trans (y.2.mono (by simp))⟩
  · obtain ⟨h1, h2⟩ := inR_true.1 h
    obtain ⟨k, hk⟩ := Int.eq_ofNat_of_zero_le (show 0 ≤ age - f by omega)
    have Q := Lib.hid (show weeksP f xs age = lv xs k by unfold weeksP; rw [if_pos (by omega), show (age - f).toNat = k by omega])
    obtain ⟨ad, rfl, had, hck⟩ := HT.out.at_ (k := k) (by omega)
    have hkn : (k : Int) < (n : Int) := by omega
    go_enter Tryz.func70, Tryz.ntmps70
    go_wp2
    refine wp_region_past (by kernel_rfl) (by kernel_rfl) ?_
    repeat (go_big_quiet_step ((first | (go_at_call 51; exact past_same (intsLen_any (some ad) n cap _ hn)) | (go_at_call 50; exact past_same ((impl_inRange_any _ _ _ _).mono (by rw [h]; exact fun _ _ h => h))))))
    refine wpQuiet_nil ?_
    rintro _ ⟨y, rfl⟩
    have c0 := d0 y
    have c1 := d1 y
    have hck1 := (y.2.cell (p := ad.add k) (by rw [block_of_add]; exact had)).trans hck
    go_wp2
    go_ret
    exact ⟨by rw [Q.out]; rfl, hbw.trans (y.2.mono (by simp))⟩
end Go.Proofs.YtkdfdbcpbgganaaGreatDoor
end
