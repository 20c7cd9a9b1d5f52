/- A text is cut: the reference's l01Split. -/
import Derived.Test.YtlbllonpodckgaaGreatDoorReadP
import Derived.Test.YtlbllonpodckgaaGreatDoorApp
import Derived.Test.YtlbllonpodckgaaGreatDoorList
namespace Go.Proofs.YtlbllonpodckgaaGreatDoor
open Go.RowKit Go.BigFrame

def strRows (ps : List (List UInt8)) : List (List Value) := ps.map fun p => [.string (S p)]
theorem strRows_snoc (ps : List (List UInt8)) (p : List UInt8) : strRows (ps ++ [p]) = strRows ps ++ [[.string (S p)]] := by simp [strRows]
theorem strRows_get {ps : List (List UInt8)} {k : Nat} {p : List UInt8} (h : ps[k]? = some p) : (strRows ps)[k]? = some [.string (S p)] := by simp [strRows, h]
theorem strInf : (Tryz.prog.info? 9).map (fun i => (i.zero, i.size, i.bytes)) = some (some (.string ⟨#[]⟩), 1, 16) := by kernel_rfl
theorem cut_step {c : UInt8} {L : List UInt8} {f i : Nat} (hfi : f ≤ i) (hi : i < L.length) (hno : c ∉ (L.drop f).take (i - f)) (hc : L[i] = c) :
    cutL c (L.drop f) = (L.drop f).take (i - f) :: cutL c (L.drop (i + 1)) := by
  have e : L.drop f = (L.drop f).take (i - f) ++ c :: L.drop (i + 1) := by
    conv => lhs; rw [← List.take_append_drop (i - f) (L.drop f)]
    rw [List.drop_drop, show f + (i - f) = i by omega, List.drop_eq_getElem_cons hi, hc]
  conv => lhs; rw [e]
  exact cutL_at _ hno
theorem free_step {c : UInt8} {L : List UInt8} {f i : Nat} (hfi : f ≤ i) (hi : i < L.length) (hno : c ∉ (L.drop f).take (i - f)) (hc : ¬ L[i] = c) :
    c ∉ (L.drop f).take (i + 1 - f) := by
  rw [show i + 1 - f = (i - f) + 1 by omega, List.take_add_one, List.getElem?_drop, show f + (i - f) = i by omega, List.getElem?_eq_getElem hi]
  simp only [Option.toList_some, List.mem_append, List.mem_singleton]
  rintro (h | h)
  · exact hno h
  · exact hc h.symm
theorem extract_S (s : ByteArray) (f i : Nat) : s.extract f i = S ((s.data.toList.drop f).take (i - f)) := by
  rw [← S_of (s.extract f i), ByteArray.data_extract, Array.toList_extract, List.extract_eq_take_drop]

set_option maxRecDepth 20000 in
set_option maxHeartbeats 4000000 in
theorem spec_l01Split_any (s : ByteArray) (c : UInt8) (hs : s.size ≤ 100000) (w : World) :
    Calls Tryz.prog 55 #[.string s, .int .u8 (c.toNat : Int)] w fun e w' => ∃ (A : Option Addr) (n cap : Nat), e = .returned (.slice A n cap) ∧ n = (cutL c s.data.toList).length ∧ Res w.heap.size w' 9 1 A n cap (strRows (cutL c s.data.toList)) ∧ Below w.heap.size w w' := by
  obtain ⟨i0, hi0, hz0, hz1, hz2⟩ := info_parts strInf
  have HI := Lib.hid (And.intro hi0 (And.intro hz0 (And.intro hz1 hz2))); clear hi0 hz0 hz1 hz2
  have HR0 := Lib.hid (show Res w.heap.size (w.alloc (.cells #[] 9)) 9 1 (some ⟨w.heap.size, 0, none⟩) 0 0 (strRows []) from Res.zero w w.heap.size 9 1 (Nat.le_refl _))
  have HB0 := Lib.hid ((Below.refl w.heap.size w).alloc (Nat.le_refl _) (.cells #[] 9))
  have hsl : s.data.toList.length = s.size := rfl
  have HL := Lib.hid hsl; clear hsl
  go_enter Tryz.func55, Tryz.ntmps55
  go_wp2
  go_loopw [5, 6, 7] (fun o f i wr => ∃ (k q m cap : Nat) (A : Option Addr) (ps : List (List UInt8)), q ≤ s.size + 1 ∧ k ≤ q ∧ i = .int .i64 q ∧ f = .int .i64 k ∧ o = .slice A m cap ∧ m ≤ q ∧ Hid (Res w.heap.size wr 9 1 A m cap (strRows ps)) ∧ Hid (Below w.heap.size w wr) ∧ Hid (if q ≤ s.size then cutL c s.data.toList = ps ++ cutL c (s.data.toList.drop k) ∧ c ∉ (s.data.toList.drop k).take (q - k) else cutL c s.data.toList = ps)) (fun _ _ i _ => s.size + 1 - (intOf i).toNat)
  case atStart => exact ⟨0, 0, 0, 0, _, [], by omega, by omega, rfl, rfl, rfl, by omega, HR0, HB0, Lib.hid (by rw [if_pos (Nat.zero_le _)]; simp)⟩
  case round =>
    obtain ⟨k, q, m, cap, A, ps, hq, hkq, rfl, rfl, rfl, hm, HR, HB, HC⟩ := hrel
    clear HR0 HB0
    by_cases hlt : q < s.size
    · have hqi : (q : Int) ≤ (s.size : Int) := by omega
      have hqe : ¬ (q : Int) = (s.size : Int) := by omega
      have hqr : 0 ≤ (q : Int) ∧ (q : Int) < (s.size : Int) := by omega
      have hLq : q < s.data.toList.length := by rw [HL.out]; exact hlt
      have hge : s.data.toList[q] = s[q] := rfl
      obtain ⟨hc1, hc2⟩ := (show cutL c s.data.toList = ps ++ cutL c (s.data.toList.drop k) ∧ c ∉ (s.data.toList.drop k).take (q - k) from by have h := HC.out; rw [if_pos (by omega)] at h; exact h)
      have HC1 := Lib.hid hc1; clear hc1
      have HC2 := Lib.hid hc2; clear hc2
      have HGE := Lib.hid hge; clear hge
      by_cases hcc : s[q] = c
      · have hcb : ((s[q].toNat : Int) == (c.toNat : Int)) = true := by rw [hcc]; simp
        have HR6 := Lib.hid (show cutL c s.data.toList = (ps ++ [(s.data.toList.drop k).take (q - k)]) ++ cutL c (s.data.toList.drop (q + 1)) from by
          rw [HC1.out, cut_step hkq hLq HC2.out (HGE.out.trans hcc)]; simp)
        have HEX := Lib.hid (extract_S s k q)
        clear hcc
        go_wp2_with (at_builtin; refine wpList_append_row_at _ rfl _ _ _ rfl w.heap.size 9 i0 _ 1 16 Tryz.underlying72 HI.out.1 HI.out.2.1 HI.out.2.2.1 HI.out.2.2.2 rfl (by decide) (by decide) A m cap _ rfl HR.out [.string (s.extract k q)] _ rfl rfl (by simp [Value.oneCell']) (by omega) HB.out.size ?_; intro A2 c2 w5 hR5 hb5 _ _)
        rw [HEX.out, ← strRows_snoc] at hR5
        have HR5 := Lib.hid hR5
        have HB5 := Lib.hid (HB.out.trans hb5)
        clear hR5 hb5 hcb
        go_wp2
        go_roundw
        case rel => exact ⟨q + 1, q + 1, m + 1, c2, A2, _, by omega, by omega, by go_num, by go_num, rfl, by omega, HR5, HB5, Lib.hid (by
          rw [if_pos (by omega)]
          exact ⟨HR6.out, by simp⟩)⟩
        case measure => simp [intOf]; omega
      · have hcb : ((s[q].toNat : Int) == (c.toNat : Int)) = false := by
          rw [beq_eq_false_iff_ne]
          intro h
          exact hcc (UInt8.toNat_inj.1 (by omega))
        have HF := Lib.hid (free_step hkq hLq HC2.out (fun h => hcc (HGE.out.symm.trans h)))
        clear hcc
        go_wp2
        go_roundw
        case rel => exact ⟨k, q + 1, m, cap, A, ps, by omega, by omega, by go_num, rfl, rfl, by omega, HR, HB, Lib.hid (by
          rw [if_pos (by omega)]
          exact ⟨HC1.out, HF.out⟩)⟩
        case measure => simp [intOf]; omega
    · by_cases hqq : q = s.size
      · subst hqq
        obtain ⟨hc1, hc2⟩ := (show cutL c s.data.toList = ps ++ cutL c (s.data.toList.drop k) ∧ c ∉ (s.data.toList.drop k).take (s.size - k) from by have h := HC.out; rw [if_pos (Nat.le_refl _)] at h; exact h)
        have HR6 := Lib.hid (show cutL c s.data.toList = ps ++ [(s.data.toList.drop k).take (s.size - k)] from by
          have h1 : (s.data.toList.drop k).take (s.size - k) = s.data.toList.drop k := List.take_of_length_le (by rw [List.length_drop, HL.out]; omega)
          rw [h1] at hc2
          rw [hc1, h1, cutL_free hc2])
        have HEX := Lib.hid (extract_S s k s.size)
        clear hc1 hc2 HC
        go_wp2_with (at_builtin; refine wpList_append_row_at _ rfl _ _ _ rfl w.heap.size 9 i0 _ 1 16 Tryz.underlying72 HI.out.1 HI.out.2.1 HI.out.2.2.1 HI.out.2.2.2 rfl (by decide) (by decide) A m cap _ rfl HR.out [.string (s.extract k s.size)] _ rfl rfl (by simp [Value.oneCell']) (by omega) HB.out.size ?_; intro A2 c2 w5 hR5 hb5 _ _)
        rw [HEX.out, ← strRows_snoc] at hR5
        have HR5 := Lib.hid hR5
        have HB5 := Lib.hid (HB.out.trans hb5)
        clear hR5 hb5
        go_wp2
        go_roundw
        case rel => exact ⟨s.size + 1, s.size + 1, m + 1, c2, A2, _, by omega, by omega, by go_num, by go_num, rfl, by omega, HR5, HB5, Lib.hid (by
          rw [if_neg (by omega)]
          exact HR6.out)⟩
        case measure => simp [intOf]
      · have hqi : ¬ (q : Int) ≤ (s.size : Int) := by omega
        have hc1 := (show cutL c s.data.toList = ps from by have h := HC.out; rw [if_neg (by omega)] at h; exact h)
        have HC1 := Lib.hid hc1; clear hc1 HC
        go_wp2
        go_ret
        have hmm : m = ps.length := by have := HR.out.len; rw [← this]; simp [strRows]
        exact ⟨A, m, cap, rfl, by rw [HC1.out]; exact hmm, by rw [HC1.out]; exact HR.out, HB.out⟩
end Go.Proofs.YtlbllonpodckgaaGreatDoor
