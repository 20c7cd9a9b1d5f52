/- Parts of a proof, one after another: Pt3, Pt4. No condition. -/
import Derived.Test.YtkdfdbcpbgganaaGreatDoorK0
import Derived.Test.YtkdfdbcpbgganaaGreatDoorK1
import Derived.Test.YtkdfdbcpbgganaaGreatDoorK2
import Derived.Test.YtkdfdbcpbgganaaGreatDoorK11
import Derived.Test.YtkdfdbcpbgganaaGreatDoorK13
import Derived.Test.YtkdfdbcpbgganaaGreatDoorK15
import Derived.Lib.AppendZerosOnto
/- Whole numbers are read: ParseInt told in full; l01Signed, l01Numbers of the reference. -/
section
namespace Go.Proofs.YtkdfdbcpbgganaaGreatDoor
open Go.RowKit Go.BigFrame

def IntIs (s : ByteArray) (m : Int) : Prop := (-9999999999999 ≤ m ∧ m ≤ 9999999999999) ∧ s = S (Lib.itoa m)
theorem intIs_pos {s : ByteArray} {m : Int} (h : IntIs s m) (h0 : 0 ≤ m) : DecIs s m := by
  obtain ⟨⟨h1, h2⟩, h3⟩ := h
  rw [itoa_pos h0] at h3
  exact ⟨⟨h0, h2⟩, h3⟩
theorem intIs_neg {s : ByteArray} {m : Int} (h : IntIs s m) (h0 : m < 0) : (∃ hz : 0 < s.size, s[0].toNat = 45) ∧ DecIs (s.extract 1 s.size) (-m) := by
  obtain ⟨⟨h1, h2⟩, h3⟩ := h
  rw [itoa_neg h0] at h3
  subst h3
  refine ⟨⟨by rw [S_size]; simp, rfl⟩, ⟨by omega, by omega⟩, ?_⟩
  rw [extract_S, S_list, S_size]
  simp
theorem neg_back {s : ByteArray} (hz : 0 < s.size) (h45 : s[0].toNat = 45) {n : Int} (hn : 0 < n) (h : s.extract 1 s.size = S (decL n)) : s = S (Lib.itoa (-n)) := by
  rw [itoa_neg (by omega), Int.neg_neg]
  have hl : s.data.toList = 45 :: decL n := by
    rw [extract_S] at h
    have h1 := S_inj h
    have h2 : s.data.toList.length = s.size := rfl
    have h3 : s.data.toList = s.data.toList[0]'(by omega) :: s.data.toList.drop 1 := by
      have := List.drop_eq_getElem_cons (l := s.data.toList) (i := 0) (by omega)
      simpa using this
    have h4 : s.data.toList[0]'(by omega) = 45 := UInt8.toNat_inj.1 h45
    rw [h3, h4, ← h1, List.take_of_length_le (by rw [List.length_drop]; omega)]
  rw [← hl]; exact (S_of s).symm
def NumF (s : ByteArray) (w w' : World) (e : Ending) : Prop := ∃ (n : Int) (b : Bool), e = .returned (.tuple #[.int .i64 n, .bool b]) ∧ In64 n ∧ (b = true → s = S (Lib.itoa n)) ∧ (∀ m, IntIs s m → n = m ∧ b = true) ∧ Below w.heap.size w w'
set_option maxHeartbeats 4000000 in
theorem spec_l01Signed_full (s : ByteArray) (w : World) :
    Calls Tryz.prog 81 #[.string s] w fun e w' => NumF s w w' e := by
  by_cases h0 : s.size = 0
  · have h0i : ¬ (0 : Int) < (s.size : Int) := by omega
    have HNO := Lib.hid (fun m (hm : IntIs s m) => (show False from by
      rcases Int.lt_or_le m 0 with h | h
      · obtain ⟨⟨hz, _⟩, _⟩ := intIs_neg hm h; omega
      · have := (decIs_val (intIs_pos hm h)).2.2.1; omega))
    go_enter Tryz.func81, Tryz.ntmps81
    go_wp2_with fail
    refine (spec_l01Digits_full s _).mono ?_
    rintro e w1 ⟨n, b, rfl, ⟨n0, n1⟩, hb1, _, hb⟩
    have H1 := Lib.hid hb1; clear hb1
    have HI := Lib.hid (itoa_pos n0)
    go_wp2
    go_ret2
    exact ⟨n, b, rfl, by unfold In64; omega, fun h => by rw [HI.out]; exact H1.out h, fun m hm => (HNO.out m hm).elim, hb⟩
  have h0p : 0 < s.size := by omega
  have h0i : (0 : Int) < (s.size : Int) := by omega
  by_cases h45 : s[0].toNat = 45
  · have h45i : ((s[0].toNat : Int) == 45) = true := by simp [h45]
    have HBK := Lib.hid (fun (n : Int) (hn : 0 < n) h => neg_back h0p h45 hn h)
    have HNG := Lib.hid (fun m (hm : IntIs s m) => (show m < 0 ∧ DecIs (s.extract 1 s.size) (-m) from by
      rcases Int.lt_or_le m 0 with h | h
      · exact ⟨h, (intIs_neg hm h).2⟩
      · exact absurd h45 (decIs_first (intIs_pos hm h) h0p)))
    clear h45
    go_enter Tryz.func81, Tryz.ntmps81
    go_wp2_with fail
    refine (spec_l01Digits_full (s.extract 1 s.size) _).mono ?_
    rintro e w1 ⟨n, b, rfl, ⟨n0, n1⟩, hb1, hb2, hb⟩
    have H1 := Lib.hid hb1; have H2 := Lib.hid hb2; clear hb1 hb2
    cases b
    · go_wp2
      go_ret2
      exact ⟨-n, false, rfl, by unfold In64; omega, fun h => (by cases h), fun m hm => (by have := (H2.out _ (HNG.out m hm).2).2; cases this), hb⟩
    · by_cases hn : 0 < n
      · have hnd : decide (0 < n) = true := by simpa using hn
        go_wp2
        go_ret2
        exact ⟨-n, true, rfl, by unfold In64; omega, fun _ => HBK.out n hn (H1.out (by simp)), fun m hm => (by have := (H2.out _ (HNG.out m hm).2).1; exact ⟨by omega, rfl⟩), hb⟩
      · have hnd : decide (0 < n) = false := by simpa using hn
        go_wp2
        go_ret2
        exact ⟨-n, false, rfl, by unfold In64; omega, fun h => (by cases h), fun m hm => (by have h1 := (H2.out _ (HNG.out m hm).2).1; have h2 := (HNG.out m hm).1; omega), hb⟩
  · have h45i : ((s[0].toNat : Int) == 45) = false := by simp; omega
    have HPS := Lib.hid (fun m (hm : IntIs s m) => (show DecIs s m from by
      rcases Int.lt_or_le m 0 with h | h
      · obtain ⟨⟨hz, h9⟩, _⟩ := intIs_neg hm h; exact absurd h9 h45
      · exact intIs_pos hm h))
    clear h45
    go_enter Tryz.func81, Tryz.ntmps81
    go_wp2_with fail
    refine (spec_l01Digits_full s _).mono ?_
    rintro e w1 ⟨n, b, rfl, ⟨n0, n1⟩, hb1, hb2, hb⟩
    have H1 := Lib.hid hb1; have H2 := Lib.hid hb2; clear hb1 hb2
    have HI := Lib.hid (itoa_pos n0)
    go_wp2
    go_ret2
    exact ⟨n, b, rfl, by unfold In64; omega, fun h => by rw [HI.out]; exact H1.out h, fun m hm => H2.out m (HPS.out m hm), hb⟩

/-- the words read so far -/
structure NumsZ (ws : List (List UInt8)) (ns : List Int) (k : Nat) : Prop where
  len : ns.length = k
  fit : ∀ x ∈ ns, In64 x
  back : ∀ (j : Nat) (x : Int) (p : List UInt8), ns[j]? = some x → ws[j]? = some p → p = Lib.itoa x
  forth : ∀ ms : List Int, (∀ m ∈ ms, -9999999999999 ≤ m ∧ m ≤ 9999999999999) → ws = ms.map Lib.itoa → ns = ms.take k
theorem NumsZ.nil (ws : List (List UInt8)) : NumsZ ws [] 0 := ⟨rfl, by simp, fun j x p h => by simp at h, fun ms _ _ => by simp⟩
theorem NumsZ.snoc {ws : List (List UInt8)} {ns : List Int} {k : Nat} {p : List UInt8} {n : Int} (h : NumsZ ws ns k) (hp : ws[k]? = some p) (hn : In64 n) (h1 : S p = S (Lib.itoa n)) (h2 : ∀ m, IntIs (S p) m → n = m) : NumsZ ws (ns ++ [n]) (k + 1) := by
  refine ⟨by simp [h.len], ?_, ?_, ?_⟩
  · intro x hx
    rcases List.mem_append.1 hx with hx | hx
    · exact h.fit x hx
    · simp only [List.mem_singleton] at hx; rw [hx]; exact hn
  · intro j x q hx hq
    rcases Nat.lt_or_ge j k with hj | hj
    · rw [List.getElem?_append_left (by rw [h.len]; exact hj)] at hx
      exact h.back j x q hx hq
    · have hjl := (List.getElem?_eq_some_iff.1 hx).1
      rw [List.length_append, h.len] at hjl
      have hjk : j = k := by simp at hjl; omega
      subst hjk
      rw [List.getElem?_append_right (by rw [h.len]; exact Nat.le_refl _), h.len, Nat.sub_self] at hx
      simp only [List.getElem?_cons_zero, Option.some.injEq] at hx
      subst hx
      rw [hp] at hq
      injection hq with hq
      rw [← hq]
      exact S_inj h1
  · intro ms hm he
    have ih := h.forth ms hm he
    have hk : k < ms.length := by
      have := (List.getElem?_eq_some_iff.1 hp).1
      rw [he, List.length_map] at this
      exact this
    rw [List.take_add_one, ← ih, List.getElem?_eq_getElem hk, Option.toList_some]
    congr 1
    rw [he, List.getElem?_map, List.getElem?_eq_getElem hk] at hp
    injection hp with hp
    have := h2 ms[k] ⟨hm _ (List.getElem_mem hk), by rw [← hp]⟩
    rw [this]
theorem no_ints {ws : List (List UInt8)} {k : Nat} {p : List UInt8} (hp : ws[k]? = some p) (h : ∀ m, ¬ IntIs (S p) m) (ms : List Int) (hm : ∀ m ∈ ms, -9999999999999 ≤ m ∧ m ≤ 9999999999999) : ¬ ws = ms.map Lib.itoa := by
  intro he
  have hk : k < ms.length := by
    have := (List.getElem?_eq_some_iff.1 hp).1
    rw [he, List.length_map] at this
    exact this
  rw [he, List.getElem?_map, List.getElem?_eq_getElem hk] at hp
  injection hp with hp
  exact h ms[k] ⟨hm _ (List.getElem_mem hk), by rw [← hp]⟩
def NumsF (ws : List (List UInt8)) (w w' : World) (e : Ending) : Prop := ∃ (A : Option Addr) (n c : Nat) (b : Bool) (ns : List Int), e = .returned (.tuple #[.slice A n c, .bool b]) ∧ Res w.heap.size w' 2 1 A n c (intRows ns) ∧
  (b = true → NumsZ ws ns ws.length) ∧ (b = false → ns = [] ∧ ∀ ms : List Int, (∀ m ∈ ms, -9999999999999 ≤ m ∧ m ≤ 9999999999999) → ¬ ws = ms.map Lib.itoa) ∧ Below w.heap.size w w'
set_option maxHeartbeats 4000000 in
set_option maxRecDepth 100000 in
theorem spec_l01Numbers_full (A0 : Option Addr) (n c0 : Nat) (ws : List (List UInt8)) (w : World) (hl : ws.length = n) (hn : n ≤ 1000000) (hX : Rd w w.heap.size A0 1 (strRows ws)) :
    Calls Tryz.prog 45 #[.slice A0 n c0] w fun e w' => NumsF ws w w' e := by
  obtain ⟨i0, hi0, hj0, hj1, hj2⟩ := info_parts Int64.info
  have HI := Lib.hid (And.intro hi0 (And.intro hj0 (And.intro hj1 hj2))); clear hi0 hj0 hj1 hj2
  have HL := Lib.hid hl; clear hl
  have HX := Lib.hid hX; clear hX
  have HR0 := Lib.hid (show Res w.heap.size (w.alloc (.cells #[] 2)) 2 1 (some ⟨w.heap.size, 0, none⟩) 0 0 (intRows []) from Res.zero w w.heap.size 2 1 (Nat.le_refl _))
  have HW0 := Lib.hid ((Below.refl w.heap.size w).alloc (Nat.le_refl _) (.cells #[] 2))
  go_enter Tryz.func45, Tryz.ntmps45
  go_wp2
  go_loopw [4, 5] (fun o i wr => ∃ (k cap : Nat) (A : Option Addr) (ns : List Int), k ≤ n ∧ i = .int .i64 k ∧ o = .slice A k cap ∧ Hid (Res w.heap.size wr 2 1 A k cap (intRows ns)) ∧ Hid (NumsZ ws ns k) ∧ Hid (Below w.heap.size w wr)) (fun _ i _ => n - (intOf i).toNat)
  case atStart => exact ⟨0, 0, _, [], by omega, rfl, rfl, HR0, Lib.hid (NumsZ.nil ws), HW0⟩
  case round =>
    obtain ⟨k, cap, A, ns, hk, rfl, rfl, HR, HNS, HB⟩ := hrel
    clear HR0 HW0
    by_cases hlt : k < n
    · obtain ⟨l, hl⟩ := get_of_lt (xs := ws) (k := k) (by rw [HL.out]; exact hlt)
      have hki : (k : Int) < (n : Int) := by omega
      obtain ⟨ad, rfl, had, _, hcl⟩ := (HX.out.past HB.out).at' (strRows_get hl)
      have cl : wr.cell? (ad.add k) = some (.string (S l)) := by have := hcl 0 _ rfl; rwa [Nat.mul_one, Addr.add_zero'] at this
      obtain ⟨sl, hsl⟩ : ∃ sl, S l = sl := ⟨_, rfl⟩
      rw [hsl] at cl
      have HSL := Lib.hid hsl
      have Hl := Lib.hid hl
      clear hsl hl hcl
      go_wp2_with fail
      refine (spec_l01Signed_full sl wr).mono ?_
      rintro e w2 ⟨x, b, rfl, hx64, hxb, hxf, hb⟩
      have HB2 := Lib.hid (HB.out.trans (hb.mono HB.out.size))
      have HR2 := Lib.hid (HR.out.past hb)
      cases b
      · have HNO := Lib.hid (show ∀ ms : List Int, (∀ m ∈ ms, -9999999999999 ≤ m ∧ m ≤ 9999999999999) → ¬ ws = ms.map Lib.itoa from no_ints Hl.out (fun m hm => (by have := (hxf m (by rw [← HSL.out]; exact hm)).2; cases this)))
        clear hx64 hxb hxf hb
        go_wp2
        go_ret2
        exact ⟨none, 0, 0, false, [], rfl, Res.nil_, fun h => (by cases h), fun _ => ⟨rfl, HNO.out⟩, HB2.out⟩
      · have HN2 := Lib.hid (HNS.out.snoc Hl.out hx64 (by rw [HSL.out]; exact hxb rfl) (fun m hm => (hxf m (by rw [← HSL.out]; exact hm)).1))
        clear hx64 hxb hxf hb HR HB
        have hbsz := HB2.out.size
        go_wp2_with (at_builtin; refine wpList_append_row_at _ rfl _ _ _ rfl w.heap.size 2 i0 _ 1 8 Tryz.underlying24 HI.out.1 HI.out.2.1 HI.out.2.2.1 HI.out.2.2.2 rfl (by decide) (by decide) A k cap _ rfl HR2.out [.int .i64 x] _ rfl rfl (by simp [Value.oneCell']) (by omega) hbsz ?_; intro A9 c9 w9 hR9 hb9 _ _)
        rw [← intRows_snoc] at hR9
        have HR9 := Lib.hid hR9
        have HB9 := Lib.hid (HB2.out.trans hb9)
        clear hR9 hb9
        go_wp2
        go_roundw
        case rel => exact ⟨k + 1, c9, A9, ns ++ [x], by omega, by go_num, rfl, HR9, HN2, HB9⟩
        case measure => simp [intOf]; omega
    · have hkn : k = n := by omega
      subst hkn
      go_wp2
      go_ret2
      exact ⟨A, k, cap, true, ns, rfl, HR.out, fun _ => by rw [HL.out]; exact HNS.out, fun h => (by cases h), HB.out⟩

/-- what ParseInt says, in full -/
theorem parse_full (s : ByteArray) (hs : s.size ≤ 1000000) (w : World) (hE : Env w) :
    Calls Tryz.prog 61 #[.string s, .int .i64 10, .int .i64 64] w fun e w' => ∃ (v : Int) (ev : Value), e = .returned (.tuple #[.int .i64 v, ev]) ∧ In64 v ∧ (ev = .nilIface ∨ ∃ te N, ev = .iface te (.pointer (some ⟨N, 0, none⟩))) ∧
      (∀ z, Lib.parseIntB 64 s.data.toList = .ok z → v = z ∧ ev = .nilIface) ∧ (ev = .nilIface → Lib.parseIntB 64 s.data.toList = .ok v) ∧ Below w.heap.size w w' := by
  obtain ⟨_, ⟨e2, h2, k2⟩, ⟨e3, h3, k3⟩, _⟩ := hE
  cases hq : Lib.parseIntB 64 s.data.toList with
  | ok z =>
    refine (Tryz.strconv_ParseInt_10_at64_ok s (by omega) z hq w).mono ?_
    rintro e w' ⟨rfl, hw⟩
    refine ⟨z, .nilIface, rfl, parseInt_in hq, .inl rfl, fun z' h => by injection h with h; exact ⟨h, rfl⟩, fun _ => rfl, ?_⟩
    rcases hw with rfl | ⟨t, rfl⟩
    · exact Below.refl _ _
    · exact Lib.bytesWorld_below w _ t
  | range =>
    refine (Tryz.strconv_ParseInt_10_at64_range s (by omega) hq e3 w h3 k3).mono ?_
    rintro e w' ⟨N, rfl, _, _, hb⟩
    exact ⟨_, _, rfl, intSat_in _, .inr ⟨_, N, rfl⟩, fun z h => (by cases h), fun h => (by cases h), hb⟩
  | _ =>
    refine (Any.strconv_ParseInt_10_at64_syntax Tryz.laysC174 s (by omega) hq e2 w h2 k2).mono ?_
    rintro e w' ⟨N, rfl, _, _, hb⟩
    exact ⟨0, _, rfl, by unfold In64; omega, .inr ⟨_, N, rfl⟩, fun z h => (by cases h), fun h => (by cases h), hb⟩
theorem parse_itoa {m : Int} (h : -9999999999999 ≤ m ∧ m ≤ 9999999999999) : Lib.parseIntB 64 (Lib.itoa m) = .ok m := by
  by_cases h0 : m < 0
  · obtain ⟨h1, h2⟩ := dec_digits (-m).toNat
    have hp := parseM_digits (2 ^ 64 - 1) (by decide) (decL (-m)) 0 h1 (by show valL 0 (Lib.decDigits (-m).toNat) ≤ _; rw [h2]; omega)
    have hv : valL 0 (decL (-m)) = (-m).toNat := h2
    rw [hv] at hp
    rw [itoa_neg h0]
    unfold Lib.parseIntB
    simp only
    rw [if_pos (.inr (by decide))]
    unfold Lib.parseUintB
    rw [if_neg (decL_ne _), hp]
    simp only
    rw [if_neg (by intro hh; exact hh.1 (by decide)), if_neg (by intro hh; omega), if_pos (by decide)]
    congr 1
    omega
  · obtain ⟨h1, h2⟩ := dec_digits m.toNat
    have hv : valL 0 (decL m) = m.toNat := h2
    rw [itoa_pos (by omega), parseInt_digits (decL_ne _) h1 (by show valL 0 (decL m) ≤ _; rw [hv]; omega)]
    show Lib.NumEnd.ok ((valL 0 (decL m) : Nat) : Int) = _
    rw [hv]
    congr 1
    omega
theorem parse_nil (m : Int) : Lib.parseIntB 64 [] ≠ .ok m := by intro h; cases h
end Go.Proofs.YtkdfdbcpbgganaaGreatDoor
end

/- slices.Grow of a nil slice by 5, slices.Concat of two slices that have 5 numbers together. -/
section
namespace Go.Proofs.YtkdfdbcpbgganaaGreatDoor
open Go.RowKit Go.BigFrame

set_option maxHeartbeats 4000000 in
theorem grow5_any (w : World) :
    Calls Tryz.prog 100 #[.slice none 0 0, .int .i64 5] w fun e w' => ∃ (A : Option Addr) (c : Nat), e = .returned (.slice A 0 c) ∧ Res w.heap.size w' 2 1 A 0 c (intRows []) ∧ Below w.heap.size w w' := by
  obtain ⟨i0, hi0, hz0, hz1, hz2⟩ := info_parts Int64.info
  have hold : (Builtin.firstCells i0.size 0 (.slice none 0 0)).run Tryz.prog w.drew = .ok ([] : List Value).toArray w.drew := run_firstCells_none w.drew i0.size 0 0 0
  have hrz : ∀ ty, (Builtin.append_ #[24, 3] ty #[.slice none 0 0, .int .i64 5]).run Tryz.prog w = .ok (.slice (some ⟨w.heap.size, 0, none⟩) 5 (grownCap w 5 0 2)) (w.drew.alloc (.cells (([] : List Value).toArray ++ Builtin.zeroCells (Value.int .i64 0).cells 5 ++ Builtin.zeroCells (Value.int .i64 0).cells (grownCap w 5 0 2 - 5)) 2)) := fun ty => by
    have h := Lib.run_append_grow_zeros w 24 3 ty 2 i0 _ .i64 .i64 Tryz.underlying24 Tryz.underlying3 hi0 hz0 none 0 0 [] hold 5 (by omega) (by omega) (by omega) (by omega) (by rw [hz2]; omega) (growslice_fits (by omega) (by rw [hz2]; omega))
    exact h
  have hG5 : 5 ≤ grownCap w 5 0 2 := grownCap_ge w _ _ _
  have hGm : grownCap w 5 0 2 ≤ maxLen := grownCap_le_maxLen w 5 0 2 (by unfold maxLen; omega)
  generalize grownCap w 5 0 2 = G at hrz hG5 hGm
  have hcs : (([] : List Value).toArray ++ Builtin.zeroCells (Value.int .i64 0).cells 5 ++ Builtin.zeroCells (Value.int .i64 0).cells (G - 5)).size = G := by
    simp only [Array.size_append, List.size_toArray, size_zeroCells, Value.cells, List.length_nil]
    simp
    omega
  generalize ([] : List Value).toArray ++ Builtin.zeroCells (Value.int .i64 0).cells 5 ++ Builtin.zeroCells (Value.int .i64 0).cells (G - 5) = cs at hrz hcs
  have HR := Lib.hid (show Res w.heap.size (w.drew.alloc (.cells cs 2)) 2 1 (some ⟨w.heap.size, 0, none⟩) 0 G (intRows []) from
    ⟨⟨by simp [intRows], .inr ⟨w.heap.size, G, cs, rfl, Nat.le_refl _, by have := Blk.new w.drew 2 cs; exact this, Nat.zero_le _, hGm, by omega, by simp [intRows]⟩⟩, rfl, by simp [intRows]⟩)
  have HB := Lib.hid (show Below w.heap.size w (w.drew.alloc (.cells cs 2)) from ((Below.refl _ w).drew).alloc (Nat.le_refl _) _)
  have hGi : (0 : Int) ≤ (G : Int) := by omega
  have hG63 : G ≤ 9223372036854775807 := by unfold maxLen at hGm; omega
  clear hold hcs hG5 hGm
  go_enter Tryz.func100, Tryz.ntmps100
  go_wp2_with (at_builtin; refine Lib.wpList_append_run _ rfl _ _ _ _ rfl _ _ rfl rfl _ _ (hrz _) ?_)
  all_goals (go_ret; exact ⟨_, G, rfl, HR.out, HB.out⟩)

set_option maxHeartbeats 8000000 in
theorem concat5_any (G : Nat) (A : Option Addr) (k c : Nat) (ns : List Int) (B : Option Addr) (m d : Nat) (zs : List Int) (w : World) (hc0 : w.cell? ⟨G, 0, none⟩ = some (.slice A k c)) (hc1 : w.cell? ⟨G, 1, none⟩ = some (.slice B m d))
    (hA : Rd w w.heap.size A 1 (intRows ns)) (hla : ns.length = k) (hB : Rd w w.heap.size B 1 (intRows zs)) (hlb : zs.length = m) (hkm : k + m = 5) :
    Calls Tryz.prog 62 #[.slice (some ⟨G, 0, none⟩) 2 2] w fun e w' => ∃ (A' : Option Addr) (c' : Nat), e = .returned (.slice A' 5 c') ∧ Res w.heap.size w' 2 1 A' 5 c' (intRows (ns ++ zs)) ∧ Below w.heap.size w w' := by
  obtain ⟨i0, hi0, hj0, hj1, hj2⟩ := info_parts Int64.info
  have HI := Lib.hid (And.intro hi0 (And.intro hj0 (And.intro hj1 hj2))); clear hi0 hj0 hj1 hj2
  have hA0 := Lib.hid (show A = none → k = 0 from fun h0 => by
    rcases hA with h | ⟨ad, e, _⟩
    · have h9 := congrArg List.length h
      rw [intRows_length, hla] at h9
      simpa using h9
    · rw [h0] at e; cases e)
  have hB0 := Lib.hid (show B = none → m = 0 from fun h0 => by
    rcases hB with h | ⟨ad, e, _⟩
    · have h9 := congrArg List.length h
      rw [intRows_length, hlb] at h9
      simpa using h9
    · rw [h0] at e; cases e)
  have HA := Lib.hid hA; have HB := Lib.hid hB; have HLA := Lib.hid hla; have HLB := Lib.hid hlb
  have HC0 := Lib.hid hc0; have HC1 := Lib.hid hc1
  have hk5 : k ≤ 5 := by omega
  have hm5 : m ≤ 5 := by omega
  have HKM := Lib.hid hkm
  have HKI := Lib.hid (show (k : Int) + (m : Int) = 5 by omega)
  clear hA hB hla hlb hc0 hc1 hkm
  go_enter Tryz.func62, Tryz.ntmps62
  go_wp2
  go_loopw [3, 11] (fun s i wr => ∃ j : Nat, i = .int .i64 j ∧ ((j = 0 ∧ s = .int .i64 0) ∨ (j = 1 ∧ s = .int .i64 k) ∨ (j = 2 ∧ s = .int .i64 5)) ∧ w = wr) (fun _ i _ => 2 - (intOf i).toNat)
  case atStart => exact ⟨0, rfl, .inl ⟨rfl, rfl⟩, rfl⟩
  case round =>
    obtain ⟨j, rfl, h3, rfl⟩ := hrel
    rcases h3 with ⟨rfl, rfl⟩ | ⟨rfl, rfl⟩ | ⟨rfl, rfl⟩
    · have c0 := HC0.out
      go_wp2
      go_roundw
      case rel => exact ⟨1, by go_num, .inr (.inl ⟨rfl, by go_num⟩), trivial⟩
      case measure => simp [intOf]
    · have c1 := HC1.out
      have hki := HKI.out
      go_wp2
      go_roundw
      case rel => exact ⟨2, by go_num, .inr (.inr ⟨rfl, by go_num⟩), trivial⟩
      case measure => simp [intOf]
    · go_wp2_with fail
      refine (grow5_any _).mono ?_
      rintro e w1 ⟨AG, cG, rfl, hR, hb⟩
      have HR1 := Lib.hid hR; have HW1 := Lib.hid hb
      clear hR hb
      go_wp2
      go_loopw [6, 27] (fun o i wq => ∃ (j : Nat) (A' : Option Addr) (n' c' : Nat) (xs : List Int), i = .int .i64 j ∧ o = .slice A' n' c' ∧ ((j = 0 ∧ n' = 0 ∧ xs = []) ∨ (j = 1 ∧ n' = k ∧ xs = ns) ∨ (j = 2 ∧ n' = 5 ∧ xs = ns ++ zs)) ∧ Hid (Res w.heap.size wq 2 1 A' n' c' (intRows xs)) ∧ Hid (Below w.heap.size w wq)) (fun _ i _ => 2 - (intOf i).toNat)
      case atStart => exact ⟨0, AG, 0, cG, [], rfl, rfl, .inl ⟨rfl, rfl, rfl⟩, HR1, HW1⟩
      case round =>
        clear HR1 HW1
        obtain ⟨j, A', n', c', xs, rfl, rfl, h3, HR, HW⟩ := hrel
        have hsz := HW.out.size
        rcases h3 with ⟨rfl, rfl, rfl⟩ | ⟨rfl, rfl, rfl⟩ | ⟨rfl, rfl, rfl⟩
        · have c0 := (HW.out.cell (block_lt_of_cell HC0.out)).trans HC0.out
          have HX := Lib.hid (HA.out.past HW.out)
          go_wp2_with (at_builtin; refine wpList_append_res _ rfl _ _ 24 rfl w.heap.size 2 i0 _ 1 8 Tryz.underlying24 HI.out.1 HI.out.2.1 HI.out.2.2.1 HI.out.2.2.2 rfl (by decide) A' 0 c' (intRows []) rfl HR.out _ A k c (intRows ns) rfl hA0.out HX.out (by rw [intRows_length]; exact HLA.out) (intRows_all ns) (by intro r hr u hu; obtain ⟨y, _, rfl⟩ := List.mem_map.1 hr; simp at hu; subst hu; rfl) (by omega) (by omega) hsz ?_; intro A5 c5 w5 hR5 hb5)
          rw [show intRows [] ++ intRows ns = intRows ns by simp [intRows], Nat.zero_add] at hR5
          have HR5 := Lib.hid hR5
          have HW5 := Lib.hid (HW.out.trans hb5)
          clear hR5 hb5
          go_roundw
          case rel => exact ⟨1, A5, k, c5, ns, by go_num, rfl, .inr (.inl ⟨rfl, rfl, rfl⟩), HR5, HW5⟩
          case measure => simp [intOf]
        · have c1 := (HW.out.cell (block_lt_of_cell HC1.out)).trans HC1.out
          have HX := Lib.hid (HB.out.past HW.out)
          go_wp2_with (at_builtin; refine wpList_append_res _ rfl _ _ 24 rfl w.heap.size 2 i0 _ 1 8 Tryz.underlying24 HI.out.1 HI.out.2.1 HI.out.2.2.1 HI.out.2.2.2 rfl (by decide) A' n' c' (intRows xs) rfl HR.out _ B m d (intRows zs) rfl hB0.out HX.out (by rw [intRows_length]; exact HLB.out) (intRows_all zs) (by intro r hr u hu; obtain ⟨y, _, rfl⟩ := List.mem_map.1 hr; simp at hu; subst hu; rfl) (by omega) (by omega) hsz ?_; intro A5 c5 w5 hR5 hb5)
          rw [show intRows xs ++ intRows zs = intRows (xs ++ zs) by simp [intRows], HKM.out] at hR5
          have HR5 := Lib.hid hR5
          have HW5 := Lib.hid (HW.out.trans hb5)
          clear hR5 hb5
          rw [HKM.out]
          go_roundw
          case rel => exact ⟨2, A5, 5, c5, xs ++ zs, by go_num, rfl, .inr (.inr ⟨rfl, rfl, rfl⟩), HR5, HW5⟩
          case measure => simp [intOf]
        · go_wp2
          go_ret
          exact ⟨A', c', rfl, HR.out, HW.out⟩
end Go.Proofs.YtkdfdbcpbgganaaGreatDoor
end
