/- Numbers apart by blanks are read: the reference: l01Digits, l01Signed, l01Numbers. -/
import Derived.Test.YtlbllonpodckgaaGreatDoorTabR
import Derived.Test.YtlbllonpodckgaaGreatDoorSplit
namespace Go.Proofs.YtlbllonpodckgaaGreatDoor
open Go.RowKit Go.BigFrame

def DigE (s : ByteArray) (w w' : World) (e : Ending) : Prop := ∃ (n : Int) (b : Bool), e = .returned (.tuple #[.int .i64 n, .bool b]) ∧ (0 ≤ n ∧ n ≤ 9999999999999) ∧ (b = true → s = S (decL n)) ∧ (∀ m, DecIs s m → n = m ∧ b = true) ∧ Below w.heap.size w w'
set_option maxHeartbeats 4000000 in
theorem spec_l01Digits_full (s : ByteArray) (w : World) :
    Calls Tryz.prog 116 #[.string s] w fun e w' => DigE s w w' e := by
  have hsl : s.data.toList.length = s.size := rfl
  have HL := Lib.hid hsl; clear hsl
  have HP := Lib.hid (fun m (h : DecIs s m) => decIs_val h)
  by_cases h1 : s.size < 1
  · have h1i : (s.size : Int) < 1 := by omega
    go_enter Tryz.func116, Tryz.ntmps116
    go_wp2
    go_ret2
    exact ⟨0, false, rfl, ⟨by omega, by omega⟩, fun h => (by cases h), fun m hm => absurd (HP.out m hm).2.2.1 (by omega), Below.refl _ _⟩
  have h1i : ¬ (s.size : Int) < 1 := by omega
  by_cases h2 : 13 < s.size
  · have h2i : (13 : Int) < (s.size : Int) := by omega
    go_enter Tryz.func116, Tryz.ntmps116
    go_wp2
    go_ret2
    exact ⟨0, false, rfl, ⟨by omega, by omega⟩, fun h => (by cases h), fun m hm => absurd (HP.out m hm).2.2.2 (by omega), Below.refl _ _⟩
  have h2i : ¬ (13 : Int) < (s.size : Int) := by omega
  go_enter Tryz.func116, Tryz.ntmps116
  go_wp2
  go_loopw [4, 5] (fun n i wr => ∃ k : Nat, k ≤ s.size ∧ i = .int .i64 k ∧ n = .int .i64 ((valL 0 (s.data.toList.take k) : Nat) : Int) ∧ Hid (valL 0 (s.data.toList.take k) < 10 ^ k) ∧ wr = w) (fun _ i _ => s.size - (intOf i).toNat)
  case atStart => exact ⟨0, by omega, rfl, rfl, Lib.hid (by simp [valL]), rfl⟩
  case round =>
    obtain ⟨k, hk, rfl, rfl, HV, rfl⟩ := hrel
    by_cases hlt : k < s.size
    · have hLk : k < s.data.toList.length := by rw [HL.out]; exact hlt
      have HGE := Lib.hid (show s.data.toList[k] = s[k] from rfl)
      have HTk := Lib.hid (valL_take hLk)
      have hv : valL 0 (s.data.toList.take k) < 10000000000000 := pow_le HV.out (by omega : k ≤ 13)
      generalize hvv : valL 0 (s.data.toList.take k) = v at HV HTk hv ⊢
      clear hvv
      by_cases hd1 : s[k].toNat < 48
      · have hd1i : (s[k].toNat : Int) < 48 := by omega
        have HNO := Lib.hid (fun m (hm : DecIs s m) => (show False from by
          have := (HP.out m hm).1 s.data.toList[k] (List.getElem_mem hLk)
          rw [HGE.out] at this; omega))
        go_wp2
        go_ret2
        exact ⟨0, false, rfl, ⟨by omega, by omega⟩, fun h => (by cases h), fun m hm => (HNO.out m hm).elim, Below.refl _ _⟩
      by_cases hd2 : 57 < s[k].toNat
      · have hd1i : ¬ (s[k].toNat : Int) < 48 := by omega
        have hd2i : (57 : Int) < (s[k].toNat : Int) := by omega
        have HNO := Lib.hid (fun m (hm : DecIs s m) => (show False from by
          have := (HP.out m hm).1 s.data.toList[k] (List.getElem_mem hLk)
          rw [HGE.out] at this; omega))
        go_wp2
        go_ret2
        exact ⟨0, false, rfl, ⟨by omega, by omega⟩, fun h => (by cases h), fun m hm => (HNO.out m hm).elim, Below.refl _ _⟩
      have hd1i : ¬ (s[k].toNat : Int) < 48 := by omega
      have hd2i : ¬ (57 : Int) < (s[k].toNat : Int) := by omega
      have HN := Lib.hid (show valL 0 (s.data.toList.take (k + 1)) < 10 ^ (k + 1) ∧ ((valL 0 (s.data.toList.take (k + 1)) : Nat) : Int) = 10 * (v : Int) + ((s[k].toNat : Int) - 48) from by
        rw [HTk.out, HGE.out]
        exact ⟨digit_lt HV.out (by omega), by omega⟩)
      go_wp2
      go_roundw
      case rel => exact ⟨k + 1, by omega, by go_num, by rw [HN.out.2], Lib.hid HN.out.1, trivial⟩
      case measure => simp [intOf]; omega
    · have hkn : k = s.size := by omega
      subst hkn
      have HA := Lib.hid (show s.data.toList.take s.size = s.data.toList from List.take_of_length_le (by rw [HL.out]; exact Nat.le_refl _))
      rw [HA.out] at HV ⊢
      have hv : valL 0 s.data.toList < 10000000000000 := pow_le HV.out (by omega : s.size ≤ 13)
      generalize hvv : valL 0 s.data.toList = v at HV HP hv ⊢
      clear hvv
      change Hid _ at HP
      go_wp2_with fail
      refine (spec_l01Dec_int (v : Int) (by omega) (by omega) _).mono ?_
      rintro e w1 ⟨rfl, hb⟩
      by_cases hq : S (decL (v : Int)) = s
      · have hql := str_eq hq
        have HQT := Lib.hid hq; clear hq
        go_wp2
        go_ret2
        exact ⟨v, true, rfl, ⟨by omega, by omega⟩, fun _ => HQT.out.symm, fun m hm => ⟨(HP.out m hm).2.1, rfl⟩, hb⟩
      · have hql := str_ne hq
        have HQ := Lib.hid hq; clear hq
        go_wp2
        go_ret2
        exact ⟨v, false, rfl, ⟨by omega, by omega⟩, fun h => (by cases h), fun m hm => absurd (by rw [(HP.out m hm).2.1]; exact hm.2.symm) HQ.out, hb⟩

theorem decIs_first {s : ByteArray} {m : Int} (h : DecIs s m) (h0 : 0 < s.size) : s[0].toNat ≠ 45 := by
  have hd := (decIs_val h).1
  have := hd s[0] (by
    have : s[0] = s.data.toList[0]'h0 := rfl
    rw [this]; exact List.getElem_mem _)
  omega
set_option maxHeartbeats 4000000 in
theorem spec_l01Signed_any (s : ByteArray) (w : World) :
    Calls Tryz.prog 148 #[.string s] w fun e w' => NumE s w w' e := by
  by_cases h0 : s.size = 0
  · have h0i : ¬ (0 : Int) < (s.size : Int) := by omega
    go_enter Tryz.func148, Tryz.ntmps148
    go_wp2_with fail
    refine (spec_l01Digits_full s _).mono ?_
    rintro e w1 ⟨n, b, rfl, ⟨n0, n1⟩, hb1, hb2, hb⟩
    have H1 := Lib.hid hb1; have H2 := Lib.hid hb2; clear hb1 hb2
    go_wp2
    go_ret2
    exact ⟨n, b, rfl, by unfold In64; omega, fun h _ => H1.out h, H2.out, hb⟩
  have h0p : 0 < s.size := by omega
  have h0i : (0 : Int) < (s.size : Int) := by omega
  have HF := Lib.hid (fun m (hm : DecIs s m) => decIs_first hm h0p)
  by_cases h45 : s[0].toNat = 45
  · have h45i : ((s[0].toNat : Int) == 45) = true := by simp [h45]
    have HNO := Lib.hid (fun m (hm : DecIs s m) => HF.out m hm h45)
    clear h45
    go_enter Tryz.func148, Tryz.ntmps148
    go_wp2_with fail
    refine (spec_l01Digits_full (s.extract 1 s.size) _).mono ?_
    rintro e w1 ⟨n, b, rfl, ⟨n0, n1⟩, _, _, hb⟩
    cases b
    · go_wp2
      go_ret2
      exact ⟨-n, false, rfl, by unfold In64; omega, fun h => (by cases h), fun m hm => (HNO.out m hm).elim, hb⟩
    · by_cases hn : 0 < n
      · have hnd : decide (0 < n) = true := by simpa using hn
        go_wp2
        go_ret2
        exact ⟨-n, true, rfl, by unfold In64; omega, fun _ h => absurd h (by omega), fun m hm => (HNO.out m hm).elim, hb⟩
      · have hnd : decide (0 < n) = false := by simpa using hn
        go_wp2
        go_ret2
        exact ⟨-n, false, rfl, by unfold In64; omega, fun h => (by cases h), fun m hm => (HNO.out m hm).elim, hb⟩
  · have h45i : ((s[0].toNat : Int) == 45) = false := by simp; omega
    clear h45
    go_enter Tryz.func148, Tryz.ntmps148
    go_wp2_with fail
    refine (spec_l01Digits_full s _).mono ?_
    rintro e w1 ⟨n, b, rfl, ⟨n0, n1⟩, hb1, hb2, hb⟩
    have H1 := Lib.hid hb1; have H2 := Lib.hid hb2; clear hb1 hb2
    go_wp2
    go_ret2
    exact ⟨n, b, rfl, by unfold In64; omega, fun h _ => H1.out h, H2.out, hb⟩

def NumsW (ws : List (List UInt8)) (w w' : World) (e : Ending) : Prop := ∃ (A : Option Addr) (n c : Nat) (b : Bool) (ns : List Int), e = .returned (.tuple #[.slice A n c, .bool b]) ∧ Res w.heap.size w' 2 1 A n c (intRows ns) ∧
  (b = true → Nums ws ns ws.length) ∧ (b = false → ns = [] ∧ ∀ ms : List Int, (∀ m ∈ ms, 0 ≤ m ∧ m ≤ 9999999999999) → ¬ ws = ms.map decL) ∧ Below w.heap.size w w'
set_option maxHeartbeats 4000000 in
set_option maxRecDepth 100000 in
theorem spec_l01Numbers_any (A0 : Option Addr) (n c0 : Nat) (ws : List (List UInt8)) (w : World) (hl : ws.length = n) (hn : n ≤ 1000000) (hX : Rd w w.heap.size A0 1 (strRows ws)) :
    Calls Tryz.prog 90 #[.slice A0 n c0] w fun e w' => NumsW ws w w' e := by
  obtain ⟨i0, hi0, hj0, hj1, hj2⟩ := info_parts Int64.info
  have HI := Lib.hid (And.intro hi0 (And.intro hj0 (And.intro hj1 hj2))); clear hi0 hj0 hj1 hj2
  have HL := Lib.hid hl; clear hl
  have HX := Lib.hid hX; clear hX
  have HR0 := Lib.hid (show Res w.heap.size (w.alloc (.cells #[] 2)) 2 1 (some ⟨w.heap.size, 0, none⟩) 0 0 (intRows []) from Res.zero w w.heap.size 2 1 (Nat.le_refl _))
  have HW0 := Lib.hid ((Below.refl w.heap.size w).alloc (Nat.le_refl _) (.cells #[] 2))
  go_enter Tryz.func90, Tryz.ntmps90
  go_wp2
  go_loopw [4, 5] (fun o i wr => ∃ (k cap : Nat) (A : Option Addr) (ns : List Int), k ≤ n ∧ i = .int .i64 k ∧ o = .slice A k cap ∧ Hid (Res w.heap.size wr 2 1 A k cap (intRows ns)) ∧ Hid (Nums ws ns k) ∧ Hid (Below w.heap.size w wr)) (fun _ i _ => n - (intOf i).toNat)
  case atStart => exact ⟨0, 0, _, [], by omega, rfl, rfl, HR0, Lib.hid (Nums.nil ws), HW0⟩
  case round =>
    obtain ⟨k, cap, A, ns, hk, rfl, rfl, HR, HNS, HB⟩ := hrel
    clear HR0 HW0
    by_cases hlt : k < n
    · obtain ⟨l, hl⟩ := get_of_lt (xs := ws) (k := k) (by rw [HL.out]; exact hlt)
      have hki : (k : Int) < (n : Int) := by omega
      obtain ⟨ad, rfl, had, _, hcl⟩ := (HX.out.past HB.out).at' (strRows_get hl)
      have cl : wr.cell? (ad.add k) = some (.string (S l)) := by have := hcl 0 _ rfl; rwa [Nat.mul_one, Addr.add_zero'] at this
      obtain ⟨sl, hsl⟩ : ∃ sl, S l = sl := ⟨_, rfl⟩
      rw [hsl] at cl
      have HSL := Lib.hid hsl
      have Hl := Lib.hid hl
      clear hsl hl hcl
      go_wp2_with fail
      refine (spec_l01Signed_any sl wr).mono ?_
      rintro e w2 ⟨x, b, rfl, hx64, hxb, hxf, hb⟩
      have HB2 := Lib.hid (HB.out.trans (hb.mono HB.out.size))
      have HR2 := Lib.hid (HR.out.past hb)
      cases b
      · have HNO := Lib.hid (show ∀ ms : List Int, (∀ m ∈ ms, 0 ≤ m ∧ m ≤ 9999999999999) → ¬ ws = ms.map decL from no_nums Hl.out (fun m hm => (by have := (hxf m (by rw [← HSL.out]; exact hm)).2; cases this)))
        clear hx64 hxb hxf hb
        go_wp2
        go_ret2
        exact ⟨none, 0, 0, false, [], rfl, Res.nil_, fun h => (by cases h), fun _ => ⟨rfl, HNO.out⟩, HB2.out⟩
      · have HN2 := Lib.hid (HNS.out.snoc Hl.out hx64 (fun h0 => by rw [HSL.out]; exact hxb rfl h0) (fun m hm => (hxf m (by rw [← HSL.out]; exact hm)).1))
        clear hx64 hxb hxf hb HR HB
        have hbsz := HB2.out.size
        go_wp2_with (at_builtin; refine wpList_append_row_at _ rfl _ _ _ rfl w.heap.size 2 i0 _ 1 8 Tryz.underlying38 HI.out.1 HI.out.2.1 HI.out.2.2.1 HI.out.2.2.2 rfl (by decide) (by decide) A k cap _ rfl HR2.out [.int .i64 x] _ rfl rfl (by simp [Value.oneCell']) (by omega) hbsz ?_; intro A9 c9 w9 hR9 hb9 _ _)
        rw [← intRows_snoc] at hR9
        have HR9 := Lib.hid hR9
        have HB9 := Lib.hid (HB2.out.trans hb9)
        clear hR9 hb9
        go_wp2
        go_roundw
        case rel => exact ⟨k + 1, c9, A9, ns ++ [x], by omega, by go_num, rfl, HR9, HN2, HB9⟩
        case measure => simp [intOf]; omega
    · have hkn : k = n := by omega
      subst hkn
      go_wp2
      go_ret2
      exact ⟨A, k, cap, true, ns, rfl, HR.out, fun _ => by rw [HL.out]; exact HNS.out, fun h => (by cases h), HB.out⟩
end Go.Proofs.YtlbllonpodckgaaGreatDoor
