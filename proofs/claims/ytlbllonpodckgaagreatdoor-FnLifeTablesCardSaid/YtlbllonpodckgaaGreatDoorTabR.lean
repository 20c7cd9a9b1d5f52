/- Numbers apart by blanks are read: the program: readDecimal, readJoined. -/
import Derived.Test.YtlbllonpodckgaaGreatDoorTabP
import Derived.Test.YtlbllonpodckgaaGreatDoorRead4
import Derived.Test.YtlbllonpodckgaaGreatDoorApp
import Derived.Test.YtlbllonpodckgaaGreatDoorList
import Derived.Test.YtlbllonpodckgaaGreatDoorStInt
namespace Go.Proofs.YtlbllonpodckgaaGreatDoor
open Go.RowKit Go.BigFrame

theorem decIs_parse {s : ByteArray} {m : Int} (h : DecIs s m) : Lib.parseIntB 64 s.data.toList = .ok m := by
  obtain ⟨h1, h2, h3, _⟩ := decIs_val h
  have hm := h.1
  have hvb : valL 0 s.data.toList ≤ 1000000000000000000 := by omega
  rw [parseInt_digits (by intro h0; have : s.size = s.data.toList.length := rfl; rw [h0, List.length_nil] at this; omega) h1 hvb, h2]
/-- what a reader of a number says -/
def NumE (s : ByteArray) (w w' : World) (e : Ending) : Prop := ∃ (n : Int) (b : Bool), e = .returned (.tuple #[.int .i64 n, .bool b]) ∧ In64 n ∧ (b = true → 0 ≤ n → s = S (decL n)) ∧ (∀ m, DecIs s m → n = m ∧ b = true) ∧ Below w.heap.size w w'
set_option maxHeartbeats 2000000 in
theorem impl_readDecimal_any (s : ByteArray) (hs : s.size ≤ 100000) (w : World) (hE : Env w) :
    Calls Tryz.prog 147 #[.string s] w fun e w' => NumE s w w' e := by
  have HE := Lib.hid hE; clear hE
  go_enter Tryz.func147, Tryz.ntmps147
  go_wp2_with fail
  refine (parse_any s (by omega) w HE.out).mono ?_
  rintro e w1 ⟨v, ev, rfl, hv, hev, hp, hb⟩
  have HK := Lib.hid (fun m (hm : DecIs s m) => (show v = m ∧ ev = .nilIface from hp m (decIs_parse hm)))
  have HV := Lib.hid hv
  have HB := Lib.hid hb
  clear hv hp hb
  rcases hev with rfl | ⟨te, N, rfl⟩
  rotate_left
  · go_wp2
    go_ret2
    exact ⟨0, false, rfl, by unfold In64; omega, fun h => (by cases h), fun m hm => (by have := (HK.out m hm).2; cases this), HB.out⟩
  by_cases hneg : v < 0
  · go_wp2
    go_ret2
    exact ⟨0, false, rfl, by unfold In64; omega, fun h => (by cases h), fun m hm => absurd (HK.out m hm).1 (by have := hm.1; omega), HB.out⟩
  go_wp2_with fail
  refine (impl_decimal_any v HV.out w1 ((HE.out.past HB.out).tab)).mono ?_
  rw [itoa_pos (by omega)]
  rintro e w2 ⟨rfl, hb2⟩
  have HB2 := Lib.hid (HB.out.trans (hb2.mono HB.out.size)); clear hb2
  by_cases hq : S (decL v) = s
  · have hql := str_eq hq
    have HQ := Lib.hid hq; clear hq
    go_wp2
    go_ret2
    exact ⟨v, true, rfl, HV.out, fun _ _ => HQ.out.symm, fun m hm => ⟨(HK.out m hm).1, rfl⟩, HB2.out⟩
  · have hql := str_ne hq
    have HQ := Lib.hid hq; clear hq
    go_wp2
    go_ret2
    exact ⟨0, false, rfl, by unfold In64; omega, fun h => (by cases h), fun m hm => absurd (by rw [(HK.out m hm).1]; exact hm.2.symm) HQ.out, HB2.out⟩

/-- the words read so far -/
structure Nums (ws : List (List UInt8)) (ns : List Int) (k : Nat) : Prop where
  len : ns.length = k
  fit : ∀ x ∈ ns, In64 x
  back : ∀ (j : Nat) (x : Int) (p : List UInt8), ns[j]? = some x → ws[j]? = some p → 0 ≤ x → p = decL x
  forth : ∀ ms : List Int, (∀ m ∈ ms, 0 ≤ m ∧ m ≤ 9999999999999) → ws = ms.map decL → ns = ms.take k
theorem Nums.nil (ws : List (List UInt8)) : Nums ws [] 0 := ⟨rfl, by simp, fun j x p h => by simp at h, fun ms _ _ => by simp⟩
theorem Nums.snoc {ws : List (List UInt8)} {ns : List Int} {k : Nat} {p : List UInt8} {n : Int} (h : Nums ws ns k) (hp : ws[k]? = some p) (hn : In64 n) (h1 : 0 ≤ n → S p = S (decL n)) (h2 : ∀ m, DecIs (S p) m → n = m) : Nums ws (ns ++ [n]) (k + 1) := by
  refine ⟨by simp [h.len], ?_, ?_, ?_⟩
  · intro x hx
    rcases List.mem_append.1 hx with hx | hx
    · exact h.fit x hx
    · simp only [List.mem_singleton] at hx; rw [hx]; exact hn
  · intro j x q hx hq h0
    rcases Nat.lt_or_ge j k with hj | hj
    · rw [List.getElem?_append_left (by rw [h.len]; exact hj)] at hx
      exact h.back j x q hx hq h0
    · have hjl := (List.getElem?_eq_some_iff.1 hx).1
      rw [List.length_append, h.len] at hjl
      have hjk : j = k := by simp at hjl; omega
      subst hjk
      rw [List.getElem?_append_right (by rw [h.len]; exact Nat.le_refl _), h.len, Nat.sub_self] at hx
      simp only [List.getElem?_cons_zero, Option.some.injEq] at hx
      subst hx
      rw [hp] at hq
      injection hq with hq
      rw [← hq]
      exact S_inj (h1 h0)
  · intro ms hm he
    have ih := h.forth ms hm he
    have hk : k < ms.length := by
      have := (List.getElem?_eq_some_iff.1 hp).1
      rw [he, List.length_map] at this
      exact this
    rw [List.take_add_one, ← ih, List.getElem?_eq_getElem hk, Option.toList_some]
    congr 1
    rw [he, List.getElem?_map, List.getElem?_eq_getElem hk] at hp
    injection hp with hp
    have := h2 ms[k] ⟨hm _ (List.getElem_mem hk), by rw [← hp]⟩
    rw [this]
/-- what a reader of a list of numbers says -/
def NumsE (s : ByteArray) (w w' : World) (e : Ending) : Prop := ∃ (A : Option Addr) (n c : Nat) (b : Bool) (ns : List Int), e = .returned (.tuple #[.slice A n c, .bool b]) ∧ Res w.heap.size w' 2 1 A n c (intRows ns) ∧
  (b = true → Nums (cutL 32 s.data.toList) ns (cutL 32 s.data.toList).length) ∧ (b = false → ns = [] ∧ ∀ ms : List Int, (∀ m ∈ ms, 0 ≤ m ∧ m ≤ 9999999999999) → ¬ cutL 32 s.data.toList = ms.map decL) ∧ Below w.heap.size w w'
theorem no_nums {ws : List (List UInt8)} {k : Nat} {p : List UInt8} (hp : ws[k]? = some p) (h : ∀ m, ¬ DecIs (S p) m) (ms : List Int) (hm : ∀ m ∈ ms, 0 ≤ m ∧ m ≤ 9999999999999) : ¬ ws = ms.map decL := by
  intro he
  have hk : k < ms.length := by
    have := (List.getElem?_eq_some_iff.1 hp).1
    rw [he, List.length_map] at this
    exact this
  rw [he, List.getElem?_map, List.getElem?_eq_getElem hk] at hp
  injection hp with hp
  exact h ms[k] ⟨hm _ (List.getElem_mem hk), by rw [← hp]⟩
theorem wordsCell {w : World} {ws : List (List UInt8)} {k : Nat} {x : List UInt8} (h : ws[k]? = some x) :
    (w.alloc (.cells ((ws.map S).map Value.string).toArray 9)).cell? ⟨w.heap.size, k, none⟩ = some (.string (S x)) := by
  rw [(Blk.new w _ _).cell, List.getElem?_toArray, List.getElem?_map, List.getElem?_map, h]; rfl

set_option maxHeartbeats 4000000 in
set_option maxRecDepth 100000 in
theorem impl_readJoined_any (s : ByteArray) (hs : s.size ≤ 100000) (w : World) (hE : Env w) :
    Calls Tryz.prog 89 #[.string s] w fun e w' => NumsE s w w' e := by
  obtain ⟨i0, hi0, hj0, hj1, hj2⟩ := info_parts Int64.info
  have HI := Lib.hid (And.intro hi0 (And.intro hj0 (And.intro hj1 hj2))); clear hi0 hj0 hj1 hj2
  have HLL := Lib.hid (show s.data.toList.length = s.size from rfl)
  have HE := Lib.hid hE; clear hE
  have HR0 := Lib.hid (show Res w.heap.size (w.alloc (.cells #[] 2)) 2 1 (some ⟨w.heap.size, 0, none⟩) 0 0 (intRows []) from Res.zero w w.heap.size 2 1 (Nat.le_refl _))
  have HW0 := Lib.hid ((Below.refl w.heap.size w).alloc (Nat.le_refl _) (.cells #[] 2))
  have hz0 : (w.alloc (.cells #[] 2)).heap.size = w.heap.size + 1 := by simp
  go_enter Tryz.func89, Tryz.ntmps89
  go_wp2_with fail
  generalize w.alloc _ = W at HW0 HR0 hz0 ⊢
  obtain ⟨mx, hmx⟩ := (HE.out.past HW0.out).mx
  refine (Tryz.strings_Split s ⟨#[32]⟩ mx W (by omega) hmx (by show 1 ≤ 1; omega)).mono ?_
  rw [splitB_cut, countB_one]
  rintro e w1 ⟨rfl, rfl⟩
  clear hmx
  obtain ⟨ws, hws⟩ : ∃ ws, cutL 32 s.data.toList = ws := ⟨_, rfl⟩
  have HWL := Lib.hid (cutL_le 32 s.data.toList)
  have HCL := Lib.hid (show (cutL 32 s.data.toList).length ≤ 100001 by rw [cutL_len]; have := List.count_le_length (a := (32 : UInt8)) (l := s.data.toList); have := HLL.out; omega)
  rw [hws] at HWL HCL ⊢
  have HWS := Lib.hid hws; clear hws
  obtain ⟨n, hn⟩ : ∃ n, ws.length = n := ⟨_, rfl⟩
  have hn2 : n ≤ 100001 := by have := HCL.out; omega
  have HLN := Lib.hid hn
  have HB1 := Lib.hid (HW0.out.alloc (by omega) (.cells ((ws.map S).map Value.string).toArray 9))
  have HR1 := Lib.hid (HR0.out.past ((Below.refl W.heap.size W).alloc (Nat.le_refl _) (.cells ((ws.map S).map Value.string).toArray 9)))
  have HWC := Lib.hid (fun k x (h : ws[k]? = some x) => wordsCell (w := W) h)
  have HLE := Lib.hid (fun k (x : List UInt8) (h : ws[k]? = some x) => (show x.length ≤ 100000 by
    have h1 := HWL.out x (List.mem_of_getElem? h)
    have h2 := HLL.out
    omega))
  rw [hn]
  have hz1 : (W.alloc (.cells ((ws.map S).map Value.string).toArray 9)).heap.size = w.heap.size + 2 := by simp [hz0]
  rw [hz0] at HWC ⊢
  generalize W.alloc (.cells ((ws.map S).map Value.string).toArray 9) = W1 at HB1 HR1 HWC hz1 ⊢
  clear HR0 HW0 HWL HCL hn hz0
  go_wp2
  go_loopw [4, 13] (fun o i wr => ∃ (k cap : Nat) (A : Option Addr) (ns : List Int), k ≤ n ∧ i = .int .i64 k ∧ o = .slice A k cap ∧ Hid (Res w.heap.size wr 2 1 A k cap (intRows ns)) ∧ Hid (Nums ws ns k) ∧ Hid (∀ j x, ws[j]? = some x → wr.cell? ⟨w.heap.size + 1, j, none⟩ = some (.string (S x))) ∧ Hid (blkOf A ≠ some (w.heap.size + 1)) ∧ Hid (Below w.heap.size w wr) ∧ w.heap.size + 2 ≤ wr.heap.size) (fun _ i _ => n - (intOf i).toNat)
  case atStart => exact ⟨0, 0, _, [], by omega, rfl, rfl, HR1, Lib.hid (Nums.nil ws), HWC, Lib.hid (by simp [blkOf]), HB1, by omega⟩
  case round =>
    obtain ⟨k, cap, A, ns, hk, rfl, rfl, HR, HNS, HC, HNB, HB, hzr⟩ := hrel
    clear HR1 HWC HB1
    by_cases hlt : k < n
    · obtain ⟨l, hl⟩ := get_of_lt (xs := ws) (k := k) (by rw [HLN.out]; exact hlt)
      have hki : (k : Int) < (n : Int) := by omega
      have cl := HC.out k l hl
      obtain ⟨sl, hsl⟩ : ∃ sl, S l = sl := ⟨_, rfl⟩
      rw [hsl] at cl
      have hlz : sl.size ≤ 100000 := by have := HLE.out k l hl; rw [← hsl, S_size]; omega
      have HSL := Lib.hid hsl
      have Hl := Lib.hid hl
      clear hsl hl
      go_wp2_with fail
      refine (impl_readDecimal_any sl hlz wr (HE.out.past HB.out)).mono ?_
      rintro e w2 ⟨x, b, rfl, hx64, hxb, hxf, hb⟩
      have HB2 := Lib.hid (HB.out.trans (hb.mono HB.out.size))
      have HR2 := Lib.hid (HR.out.past hb)
      have hz2 : w.heap.size + 2 ≤ w2.heap.size := Nat.le_trans hzr hb.size
      have HC2 := Lib.hid (show ∀ j x, ws[j]? = some x → w2.cell? ⟨w.heap.size + 1, j, none⟩ = some (.string (S x)) from fun j x h => (hb.cell (show w.heap.size + 1 < wr.heap.size by omega)).trans (HC.out j x h))
      cases b
      · have HNO := Lib.hid (show ∀ ms : List Int, (∀ m ∈ ms, 0 ≤ m ∧ m ≤ 9999999999999) → ¬ ws = ms.map decL from no_nums Hl.out (fun m hm => (by have := (hxf m (by rw [← HSL.out]; exact hm)).2; cases this)))
        clear hx64 hxb hxf hb
        go_wp2
        go_ret2
        exact ⟨none, 0, 0, false, [], rfl, Res.nil_, fun h => (by cases h), fun _ => ⟨rfl, by rw [HWS.out]; exact HNO.out⟩, HB2.out⟩
      · have HN2 := Lib.hid (HNS.out.snoc Hl.out hx64 (fun h0 => by rw [HSL.out]; exact hxb rfl h0) (fun m hm => (hxf m (by rw [← HSL.out]; exact hm)).1))
        clear hx64 hxb hxf hb HR HC HB
        have hbsz := HB2.out.size
        go_wp2_with (at_builtin; refine wpList_append_row_at _ rfl _ _ _ rfl w.heap.size 2 i0 _ 1 8 Tryz.underlying38 HI.out.1 HI.out.2.1 HI.out.2.2.1 HI.out.2.2.2 rfl (by decide) (by decide) A k cap _ rfl HR2.out [.int .i64 x] _ rfl rfl (by simp [Value.oneCell']) (by omega) hbsz ?_; intro A9 c9 w9 hR9 hb9 hkb hbk)
        rw [← intRows_snoc] at hR9
        have HR9 := Lib.hid hR9
        have HB9 := Lib.hid (HB2.out.trans hb9)
        have HC9 := Lib.hid (show ∀ j x, ws[j]? = some x → w9.cell? ⟨w.heap.size + 1, j, none⟩ = some (.string (S x)) from fun j x h => (World.cell?_of_block (hkb (w.heap.size + 1) (by omega) (fun h9 => HNB.out h9.symm))).trans (HC2.out j x h))
        have HNB9 := Lib.hid (show blkOf A9 ≠ some (w.heap.size + 1) from fun h9 => by
          rcases hbk with h8 | h8
          · exact HNB.out (h8.symm.trans h9)
          · rw [h8] at h9; injection h9; omega)
        have hz9 : w.heap.size + 2 ≤ w9.heap.size := Nat.le_trans hz2 hb9.size
        clear hR9 hb9 hkb hbk
        go_wp2
        go_roundw
        case rel => exact ⟨k + 1, c9, A9, ns ++ [x], by omega, by go_num, rfl, HR9, HN2, HC9, HNB9, HB9, hz9⟩
        case measure => simp [intOf]; omega
    · have hkn : k = n := by omega
      subst hkn
      go_wp2
      go_ret2
      exact ⟨A, k, cap, true, ns, rfl, HR.out, fun _ => by rw [HWS.out, HLN.out]; exact HNS.out, fun h => (by cases h), HB.out⟩
end Go.Proofs.YtlbllonpodckgaaGreatDoor
