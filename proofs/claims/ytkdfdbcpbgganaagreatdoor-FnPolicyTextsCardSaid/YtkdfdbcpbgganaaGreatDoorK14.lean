/- Parts of a proof, one after another: Pt2. No condition. -/
import Derived.Test.YtkdfdbcpbgganaaGreatDoorK2
import Derived.Test.YtkdfdbcpbgganaaGreatDoorK4
import Derived.Test.YtkdfdbcpbgganaaGreatDoorK12
import Derived.Test.YtkdfdbcpbgganaaGreatDoorK13
/- Texts of policies are written: joined, l01Number, l01Join at whole numbers; PolicyText of the program and of the reference. -/
section
namespace Go.Proofs.YtkdfdbcpbgganaaGreatDoor
open Go.RowKit Go.BigFrame

theorem itoaS_len {n : Int} (h0 : -1000000000000000 ≤ n) (h1 : n ≤ 1000000000000000) : (S (Lib.itoa n)).size ≤ 18 := by rw [S_size]; exact itoa_len h0 h1
set_option maxHeartbeats 4000000 in
theorem impl_joined_full (A : Option Addr) (n cap : Nat) (xs : List Int) (w : World) (hl : xs.length = n) (hn : 1 ≤ n ∧ n ≤ 130) (hX : Rd w w.heap.size A 1 (intRows xs)) (hb : ∀ x ∈ xs, -1000000000000000 ≤ x ∧ x ≤ 1000000000000000) (hT : Tab w) :
    Calls Tryz.prog 42 #[.slice A n cap] w fun e w' => e = .returned (.string (S (intsL 32 xs))) ∧ Below w.heap.size w w' := by
  obtain ⟨i0, hi0, hj0, hj1, hj2⟩ := info_parts strInf
  have HI := Lib.hid (And.intro hi0 (And.intro hj0 (And.intro hj1 hj2))); clear hi0 hj0 hj1 hj2
  have HL := Lib.hid hl; clear hl
  have HX := Lib.hid hX; clear hX
  have HBD := Lib.hid hb; clear hb
  have HTab := Lib.hid hT; clear hT
  obtain ⟨n0, n1⟩ := hn
  have HR0 := Lib.hid (show Res w.heap.size (w.alloc (.cells #[] 9)) 9 1 (some ⟨w.heap.size, 0, none⟩) 0 0 (strRows []) from Res.zero w w.heap.size 9 1 (Nat.le_refl _))
  have HW0 := Lib.hid ((Below.refl w.heap.size w).alloc (Nat.le_refl _) (.cells #[] 9))
  go_enter Tryz.func42, Tryz.ntmps42
  go_wp2
  go_loopw [3, 9] (fun o i wr => ∃ (k c9 : Nat) (B : Option Addr), k ≤ n ∧ i = .int .i64 k ∧ o = .slice B k c9 ∧ Hid (Res w.heap.size wr 9 1 B k c9 (strRows ((xs.take k).map Lib.itoa))) ∧ Hid (Below w.heap.size w wr)) (fun _ i _ => n - (intOf i).toNat)
  case atStart => exact ⟨0, 0, _, by omega, rfl, rfl, HR0, HW0⟩
  case round =>
    obtain ⟨k, cB, B, hk, rfl, rfl, HR, HB⟩ := hrel
    clear HR0 HW0
    by_cases hlt : k < n
    · obtain ⟨x, hx⟩ := get_of_lt (xs := xs) (k := k) (by rw [HL.out]; exact hlt)
      obtain ⟨x0, x1⟩ := HBD.out x (List.mem_of_getElem? hx)
      have hki : (k : Int) < (n : Int) := by omega
      obtain ⟨ad, rfl, had, hcl⟩ := (HX.out.past HB.out).int_at hx
      have HTK := Lib.hid (show (xs.take (k + 1)).map Lib.itoa = (xs.take k).map Lib.itoa ++ [Lib.itoa x] by rw [List.take_add_one, hx]; simp)
      clear hx
      go_wp2_with fail
      refine (impl_decimal_any x (by unfold In64; omega) wr (HTab.out.past HB.out)).mono ?_
      rintro e w2 ⟨rfl, hb2⟩
      have HB2 := Lib.hid (HB.out.trans (hb2.mono HB.out.size))
      have HR2 := Lib.hid (HR.out.past hb2)
      clear hb2 HB HR
      have hbsz := HB2.out.size
      go_wp2_with (at_builtin; refine wpList_append_row_at _ rfl _ _ _ rfl w.heap.size 9 i0 _ 1 16 Tryz.underlying72 HI.out.1 HI.out.2.1 HI.out.2.2.1 HI.out.2.2.2 rfl (by decide) (by decide) B k cB _ rfl HR2.out [.string (S (Lib.itoa x))] _ rfl rfl (by simp [Value.oneCell']) (by omega) hbsz ?_; intro A9 c9 w9 hR9 hb9 _ _)
      rw [← strRows_snoc, ← HTK.out] at hR9
      have HR9 := Lib.hid hR9
      have HB9 := Lib.hid (HB2.out.trans hb9)
      clear hR9 hb9
      go_wp2
      go_roundw
      case rel => exact ⟨k + 1, c9, A9, by omega, by go_num, rfl, HR9, HB9⟩
      case measure => simp [intOf]; omega
    · have hkn : k = n := by omega
      subst hkn
      have hxt : xs.take k = xs := List.take_of_length_le (by rw [HL.out]; exact Nat.le_refl _)
      rw [hxt] at HR
      clear hxt
      obtain ⟨g, rfl, hg0, hg1, hcw⟩ := words_of HR.out (by omega)
      have hLl : ((xs.map Lib.itoa).map S).length = k := by rw [List.length_map, List.length_map, HL.out]
      have hjl : Lib.join (((xs.map Lib.itoa).map S).map (·.data.toList)) (⟨#[32]⟩ : ByteArray).data.toList = intsL 32 xs := by
        unfold intsL
        congr 1
        rw [List.map_map]
        conv => rhs; rw [← List.map_id (xs.map Lib.itoa)]
        exact List.map_congr_left (fun p _ => S_list p)
      have hnl := ints_size (c := 32) (xs := xs) (by rw [HL.out]; omega) HBD.out xs.length
      rw [List.take_length, S_size] at hnl
      have HJ := Lib.hid (Tryz.strings_Join g 0 cB ((xs.map Lib.itoa).map S) ⟨#[32]⟩ wr (fun j y hy => by
        rw [List.getElem?_map] at hy
        cases hp : (xs.map Lib.itoa)[j]? with
        | none => rw [hp] at hy; cases hy
        | some p =>
          rw [hp] at hy
          injection hy with hy
          rw [Nat.zero_add, ← hy]
          exact hcw j p hp) hg1 (by rw [hLl]; omega) (by rw [hLl]; exact cap_of HR.out) (by rw [hjl]; omega))
      rw [hjl, hLl] at HJ
      clear hjl hnl hcw hLl
      go_wp2_with fail
      refine HJ.out.mono ?_
      rintro e w2 ⟨rfl, hb2⟩
      have HB2 := Lib.hid (HB.out.trans (hb2.mono HB.out.size))
      go_wp2
      go_ret
      exact ⟨rfl, HB2.out⟩


theorem spec_l01Number_full (x : Int) (w : World) (h0 : -1000000000000000 ≤ x) (h1 : x ≤ 1000000000000000) :
    Calls Tryz.prog 82 #[.int .i64 x] w fun e w' => e = .returned (.string (S (Lib.itoa x))) ∧ Below w.heap.size w w' := by
  by_cases hx : x < 0
  · have HQ := Lib.hid (show S (Lib.itoa x) = (⟨#[45]⟩ : ByteArray) ++ S (decL (-x)) from by rw [itoa_neg hx, show (⟨#[45]⟩ : ByteArray) = S [45] from rfl, S_append]; rfl)
    have hz : (S (decL (-x))).size ≤ 17 := decS_len (by omega)
    have HD := Lib.hid (fun X => spec_l01Dec_int (-x) (by omega) (by omega) X)
    generalize S (decL (-x)) = D at HQ hz HD
    change Hid _ at HQ
    change Hid _ at HD
    have u1 : ¬ 9223372036854775807 < 1 + D.size := by omega
    go_enter Tryz.func82, Tryz.ntmps82
    go_wp2_with fail
    refine (HD.out _).mono ?_
    rintro e w1 ⟨rfl, hb1⟩
    go_wp2
    go_ret
    exact ⟨by rw [HQ.out]; rfl, hb1⟩
  · have HQ := Lib.hid (show Lib.itoa x = decL x from itoa_pos (by omega))
    go_enter Tryz.func82, Tryz.ntmps82
    go_wp2_with fail
    refine (spec_l01Dec_int x (by omega) (by omega) w).mono ?_
    rintro e w1 ⟨rfl, hb1⟩
    go_wp2
    go_ret
    exact ⟨by rw [HQ.out]; rfl, hb1⟩
set_option maxHeartbeats 4000000 in
theorem spec_l01Join_full (c : UInt8) (A : Option Addr) (n cap : Nat) (xs : List Int) (w : World) (hl : xs.length = n) (hn : 1 ≤ n ∧ n ≤ 130) (hX : Rd w w.heap.size A 1 (intRows xs)) (hb : ∀ x ∈ xs, -1000000000000000 ≤ x ∧ x ≤ 1000000000000000) :
    Calls Tryz.prog 48 #[.slice A n cap, .string ⟨#[c]⟩] w fun e w' => e = .returned (.string (S (intsL c xs))) ∧ Below w.heap.size w w' := by
  have HL := Lib.hid hl; clear hl
  have HX := Lib.hid hX; clear hX
  have HBD := Lib.hid hb; clear hb
  obtain ⟨n0, n1⟩ := hn
  have HSZ := Lib.hid (fun k => ints_size (c := c) (xs := xs) (by rw [HL.out]; omega) HBD.out k)
  go_enter Tryz.func48, Tryz.ntmps48
  go_wp2
  go_loopw [5, 6] (fun o i wr => ∃ k : Nat, k ≤ n ∧ i = .int .i64 k ∧ o = .string (S (intsL c (xs.take k))) ∧ Hid (Below w.heap.size w wr)) (fun _ i _ => n - (intOf i).toNat)
  case atStart => exact ⟨0, by omega, rfl, rfl, Lib.hid (Below.refl _ _)⟩
  case round =>
    obtain ⟨k, hk, rfl, rfl, HB⟩ := hrel
    by_cases hlt : k < n
    · obtain ⟨x, hx⟩ := get_of_lt (xs := xs) (k := k) (by rw [HL.out]; exact hlt)
      obtain ⟨x0, x1⟩ := HBD.out x (List.mem_of_getElem? hx)
      have hki : (k : Int) < (n : Int) := by omega
      obtain ⟨ad, rfl, had, hcl⟩ := (HX.out.past HB.out).int_at hx
      have hz := HSZ.out k
      have hzx : (S (Lib.itoa x)).size ≤ 18 := itoaS_len x0 x1
      have HNB := Lib.hid (fun X => spec_l01Number_full x X x0 x1)
      rcases Nat.eq_zero_or_pos k with hk0 | hk0
      · subst hk0
        have HQ := Lib.hid (show S (intsL c (xs.take (0 + 1))) = S (intsL c (xs.take 0)) ++ S (Lib.itoa x) from by
          rw [ints_take0 hx, S_append]; rfl)
        generalize S (intsL c (xs.take 0)) = OUT at hz HQ ⊢
        generalize S (Lib.itoa x) = DX at hzx HQ HNB
        change Hid _ at HQ
        change Hid _ at HNB
        have u1 : ¬ 9223372036854775807 < OUT.size + DX.size := by omega
        have hc0 : wr.cell? ad = some (.int .i64 x) := by have := hcl; rwa [Addr.add_zero'] at this
        clear hx
        go_wp2_with fail
        refine (HNB.out _).mono ?_
        rintro e w2 ⟨rfl, hb2⟩
        have HB2 := Lib.hid (HB.out.trans (hb2.mono HB.out.size))
        go_wp2
        go_roundw
        case rel => exact ⟨0 + 1, by omega, by go_num, by rw [HQ.out], HB2⟩
        case measure => simp [intOf]; omega
      · have HQ := Lib.hid (show S (intsL c (xs.take (k + 1))) = S (intsL c (xs.take k)) ++ (⟨#[c]⟩ : ByteArray) ++ S (Lib.itoa x) from by
          rw [ints_take hx hk0, ← S_append, ← S_append]; rfl)
        generalize S (intsL c (xs.take k)) = OUT at hz HQ ⊢
        generalize S (Lib.itoa x) = DX at hzx HQ HNB
        change Hid _ at HQ
        change Hid _ at HNB
        have hk0i : (0 : Int) < (k : Int) := by omega
        have u1 : ¬ 9223372036854775807 < OUT.size + 1 := by omega
        have u2 : ¬ 9223372036854775807 < OUT.size + 1 + DX.size := by omega
        clear hx
        go_wp2_with fail
        refine (HNB.out _).mono ?_
        rintro e w2 ⟨rfl, hb2⟩
        have HB2 := Lib.hid (HB.out.trans (hb2.mono HB.out.size))
        go_wp2
        go_roundw
        case rel => exact ⟨k + 1, by omega, by go_num, by rw [HQ.out], HB2⟩
        case measure => simp [intOf]; omega
    · have hkn : k = n := by omega
      subst hkn
      have hxt : xs.take k = xs := List.take_of_length_le (by rw [HL.out]; exact Nat.le_refl _)
      rw [hxt]
      go_wp2
      go_ret
      exact ⟨rfl, HB.out⟩

def Policy.nums (p : Policy) : List Int := [p.kind, p.age, p.years, p.sum, p.load]
def polA (p : Policy) : Bool := allR p.nums (-1000000000000) 1000000000000
def polT (p : Policy) : List UInt8 := if polA p = true then intsL 44 p.nums else []
theorem polA_bounds {p : Policy} (h : polA p = true) : ∀ x ∈ p.nums, -1000000000000000 ≤ x ∧ x ≤ 1000000000000000 := by
  intro x hx
  unfold polA allR at h
  have := inR_true.1 (List.all_eq_true.1 h _ hx)
  omega
theorem polT_size (p : Policy) : (S (polT p)).size ≤ 3000 := by
  unfold polT
  split
  · rename_i h
    have h1 := ints_size (c := 44) (xs := p.nums) (by simp [Policy.nums]) (polA_bounds h) p.nums.length
    rwa [List.take_length] at h1
  · show (0 : Nat) ≤ 3000; omega
theorem nums_rd (w : World) (p : Policy) : Rd (w.alloc (.cells #[.int .i64 p.kind, .int .i64 p.age, .int .i64 p.years, .int .i64 p.sum, .int .i64 p.load] 2)) (w.alloc (.cells #[.int .i64 p.kind, .int .i64 p.age, .int .i64 p.years, .int .i64 p.sum, .int .i64 p.load] 2)).heap.size (some ⟨w.heap.size, 0, none⟩) 1 (intRows p.nums) := by
  refine .inr ⟨⟨w.heap.size, 0, none⟩, rfl, by simp, fun k r hr => ?_⟩
  have hk : k < 5 := by have := (List.getElem?_eq_some_iff.1 hr).1; simpa [Policy.nums, intRows] using this
  have hB := Blk.new w 2 #[.int .i64 p.kind, .int .i64 p.age, .int .i64 p.years, .int .i64 p.sum, .int .i64 p.load]
  rcases (by omega : k = 0 ∨ k = 1 ∨ k = 2 ∨ k = 3 ∨ k = 4) with rfl | rfl | rfl | rfl | rfl
  all_goals
    simp only [Policy.nums, intRows, List.map_cons, List.map_nil, List.getElem?_cons_zero, List.getElem?_cons_succ, Option.some.injEq] at hr
    subst hr
    refine ⟨rfl, fun j v hv => ?_⟩
    have hj : j = 0 := by have := (List.getElem?_eq_some_iff.1 hv).1; simp at this; exact this
    subst hj
    simp only [List.getElem?_cons_zero, Option.some.injEq] at hv
    subst hv
    rw [add_none, hB.cell]; rfl

set_option maxHeartbeats 4000000 in
theorem impl_PolicyText_any (p : Policy) (w : World) (hE : Env w) :
    Calls Tryz.prog 22 #[.agg p.row.toArray] w fun e w' => e = .returned (.string (S (polT p))) ∧ Below w.heap.size w w' := by
  unfold Policy.row
  have hbw := (Below.refl w.heap.size w).alloc (Nat.le_refl _) (.cells #[.int .i64 p.kind, .int .i64 p.age, .int .i64 p.years, .int .i64 p.sum, .int .i64 p.load] 42)
  have HB := Lib.hid (Blk.new w 42 #[.int .i64 p.kind, .int .i64 p.age, .int .i64 p.years, .int .i64 p.sum, .int .i64 p.load])
  have HE := Lib.hid (hE.past hbw); clear hE
  go_enter Tryz.func22, Tryz.ntmps22
  go_upto_region 1 with (fail)
  generalize w.alloc _ = W at hbw HB HE ⊢
  have k0 := HB.out.cell 0; have k1 := HB.out.cell 1; have k2 := HB.out.cell 2; have k3 := HB.out.cell 3; have k4 := HB.out.cell 4
  change _ = some (Value.int .i64 p.kind) at k0; change _ = some (Value.int .i64 p.age) at k1; change _ = some (Value.int .i64 p.years) at k2; change _ = some (Value.int .i64 p.sum) at k3; change _ = some (Value.int .i64 p.load) at k4
  have HR := Lib.hid (nums_rd W p)
  have HB2 := Lib.hid (hbw.alloc hbw.size (.cells #[.int .i64 p.kind, .int .i64 p.age, .int .i64 p.years, .int .i64 p.sum, .int .i64 p.load] 2))
  have HE2 := Lib.hid (HE.out.past ((Below.refl _ W).alloc (Nat.le_refl _) (.cells #[.int .i64 p.kind, .int .i64 p.age, .int .i64 p.years, .int .i64 p.sum, .int .i64 p.load] 2)))
  go_upto_region 2 with (fail)
  clear k0 k1 k2 k3 k4 HB HE hbw
  generalize W.alloc _ = W2 at HR HB2 HE2 ⊢
  generalize W.heap.size = G at HR ⊢
  go_wp2_with fail
  refine (impl_allIn_any (some ⟨G, 0, none⟩) 5 5 p.nums (-1000000000000) 1000000000000 W2 rfl (by omega) HR.out).mono ?_
  rintro e w3 ⟨rfl, hb⟩
  have HR3 := Lib.hid (HR.out.past hb); have HE3 := Lib.hid (HE2.out.past hb)
  have HB3 := Lib.hid (HB2.out.trans (hb.mono HB2.out.size))
  clear HR HE2 HB2 hb
  cases ha : allR p.nums (-1000000000000) 1000000000000
  · have Q := Lib.hid (show polT p = [] by unfold polT polA; rw [ha]; rfl)
    go_wp2
    go_ret
    exact ⟨by rw [Q.out]; rfl, HB3.out⟩
  have Q := Lib.hid (show polT p = intsL 44 p.nums by unfold polT polA; rw [ha]; rfl)
  have HBD := Lib.hid (polA_bounds (p := p) ha)
  clear ha
  have hsz := ints_size (c := 32) (xs := p.nums) (by simp [Policy.nums]) HBD.out p.nums.length
  rw [List.take_length] at hsz
  have HRP := Lib.hid (replace_ints (ns := p.nums) (by simp [Policy.nums]))
  have hct : Lib.countB (S (intsL 32 p.nums)) ⟨#[32]⟩ ≤ 3000 := by
    have h1 := countB_one 32 (S (intsL 32 p.nums))
    rw [cutL_len] at h1
    have h2 := List.count_le_length (a := (32 : UInt8)) (l := (S (intsL 32 p.nums)).data.toList)
    have h3 : (S (intsL 32 p.nums)).data.toList.length = (S (intsL 32 p.nums)).size := rfl
    omega
  have HJL := Lib.hid (show (S (intsL 32 p.nums)).data.toList = intsL 32 p.nums from S_list _)
  go_wp2_with fail
  refine (impl_joined_full (some ⟨G, 0, none⟩) 5 5 p.nums w3 rfl (by omega) HR3.out HBD.out HE3.out.tab).mono ?_
  rintro e w4 ⟨rfl, hb⟩
  have HE4 := Lib.hid (HE3.out.past hb)
  have HB4 := Lib.hid (HB3.out.trans (hb.mono HB3.out.size))
  clear HR3 HE3 HB3 hb
  obtain ⟨js, hjs⟩ : ∃ js, S (intsL 32 p.nums) = js := ⟨_, rfl⟩
  rw [hjs] at hsz hct HJL ⊢
  clear hjs
  obtain ⟨mx, hmx⟩ := HE4.out.mx
  have HRA := Lib.hid (Tryz.strings_ReplaceAll js ⟨#[32]⟩ ⟨#[44]⟩ mx w4 (by omega) hmx (by show 1 ≤ 1; omega) (by show js.size + Lib.countB js ⟨#[32]⟩ * 1 ≤ 140737488355328; omega))
  clear hmx hct hsz
  go_wp2_with fail
  refine HRA.out.mono ?_
  rintro e w5 ⟨rfl, hb⟩
  have HB5 := Lib.hid (HB4.out.trans (hb.mono HB4.out.size))
  have HFIN := Lib.hid (show (⟨(Lib.replaceAll js.data.toList (⟨#[32]⟩ : ByteArray).data.toList (⟨#[44]⟩ : ByteArray).data.toList).toArray⟩ : ByteArray) = S (intsL 44 p.nums) from by
    rw [HJL.out]; show S (Lib.replaceAll (intsL 32 p.nums) [32] [44]) = _; rw [HRP.out])
  rw [HFIN.out]
  clear hb
  go_wp2
  go_ret
  exact ⟨by rw [Q.out]; rfl, HB5.out⟩

set_option maxHeartbeats 4000000 in
theorem spec_PolicyText_any (p : Policy) (w : World) :
    Calls Tryz.prog 26 #[.agg p.row.toArray] w fun e w' => e = .returned (.string (S (polT p))) ∧ Below w.heap.size w w' := by
  unfold Policy.row
  have hbw := (Below.refl w.heap.size w).alloc (Nat.le_refl _) (.cells #[.int .i64 p.kind, .int .i64 p.age, .int .i64 p.years, .int .i64 p.sum, .int .i64 p.load] 42)
  have HB := Lib.hid (Blk.new w 42 #[.int .i64 p.kind, .int .i64 p.age, .int .i64 p.years, .int .i64 p.sum, .int .i64 p.load])
  go_enter Tryz.func26, Tryz.ntmps26
  go_upto_region 1 with (fail)
  generalize w.alloc _ = W at hbw HB ⊢
  have k0 := HB.out.cell 0; have k1 := HB.out.cell 1; have k2 := HB.out.cell 2; have k3 := HB.out.cell 3; have k4 := HB.out.cell 4
  change _ = some (Value.int .i64 p.kind) at k0; change _ = some (Value.int .i64 p.age) at k1; change _ = some (Value.int .i64 p.years) at k2; change _ = some (Value.int .i64 p.sum) at k3; change _ = some (Value.int .i64 p.load) at k4
  have HR := Lib.hid (nums_rd W p)
  have HB2 := Lib.hid (hbw.alloc hbw.size (.cells #[.int .i64 p.kind, .int .i64 p.age, .int .i64 p.years, .int .i64 p.sum, .int .i64 p.load] 2))
  go_upto_region 2 with (fail)
  clear k0 k1 k2 k3 k4 HB hbw
  generalize W.alloc _ = W2 at HR HB2 ⊢
  generalize W.heap.size = G at HR ⊢
  go_wp2_with fail
  refine (spec_l01Within_any (some ⟨G, 0, none⟩) 5 5 p.nums 5 (-1000000000000) 1000000000000 W2 rfl (by omega) HR.out).mono ?_
  cases ha : allR p.nums (-1000000000000) 1000000000000
  · rintro e w3 ⟨rfl, rfl⟩
    have Q := Lib.hid (show polT p = [] by unfold polT polA; rw [ha]; rfl)
    go_wp2
    go_ret
    exact ⟨by rw [Q.out]; rfl, HB2.out⟩
  rw [show (true && decide (((5 : Nat) : Int) ≤ 5)) = true from rfl]
  rintro e w3 ⟨rfl, rfl⟩
  have Q := Lib.hid (show polT p = intsL 44 p.nums by unfold polT polA; rw [ha]; rfl)
  have HBD := Lib.hid (polA_bounds (p := p) ha)
  clear ha
  go_wp2_with fail
  refine (spec_l01Join_full 44 (some ⟨G, 0, none⟩) 5 5 p.nums _ rfl (by omega) HR.out HBD.out).mono ?_
  rintro e w4 ⟨rfl, hb⟩
  have HB4 := Lib.hid (HB2.out.trans (hb.mono HB2.out.size))
  go_wp2
  go_ret
  exact ⟨by rw [Q.out]; rfl, HB4.out⟩
end Go.Proofs.YtkdfdbcpbgganaaGreatDoor
end
