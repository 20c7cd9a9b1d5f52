/- Texts are read: the reference: ReadMoney. -/
import Derived.Test.YtlbllonpodckgaaGreatDoorRead4
import Derived.Test.YtlbllonpodckgaaGreatDoorRead6P
import Derived.Test.YtlbllonpodckgaaGreatDoorApp
import Derived.Test.YtlbllonpodckgaaGreatDoorList
import Derived.Laws.IdiomStrings
import Derived.Lib.BufferRead
namespace Go.Proofs.YtlbllonpodckgaaGreatDoor
open Go.RowKit Go.BigFrame

theorem u8Inf : (Tryz.prog.info? 5).map (fun i => (i.zero, i.size, i.bytes)) = some (some (.int .u8 0), 1, 1) := by kernel_rfl
/-- a slice of bytes that is read as a list -/
def BytesAt (w : World) (V : Value) (l : List UInt8) : Prop := (convert 28 9 V).run Tryz.prog w = .ok (.string (S l)) w
theorem bytesAt_nil (w : World) (A : Option Addr) (C : Nat) {B : Nat} (h : Res B w 5 1 A 0 C []) : BytesAt w (.slice A 0 C) [] := by
  unfold BytesAt
  rcases h.own.2 with ⟨e, _⟩ | ⟨g, cap, cur, e, _⟩
  · rw [e]
    exact Lib.run_convert_nil_bytes w _ _ 5 0 Tryz.underlying28 Tryz.underlying5 Tryz.underlying9
  · rw [e]
    exact run_convert_bytes_back w _ _ 5 ⟨g, 0, none⟩ cap [] Tryz.underlying28 Tryz.underlying5 Tryz.underlying9 (fun j hj => absurd hj (by simp))
theorem bytesAt_drop {w : World} {g j n c : Nat} {F : List UInt8} (hc : ∀ t (ht : t < F.length), w.cell? ⟨g, t, none⟩ = some (.int .u8 (F[t].toNat : Int))) (hn : n = (F.drop j).length) :
    BytesAt w (.slice (some ⟨g, j, none⟩) n c) (F.drop j) := by
  subst hn
  refine run_convert_bytes_back w _ _ 5 ⟨g, j, none⟩ c (F.drop j) Tryz.underlying28 Tryz.underlying5 Tryz.underlying9 (fun t ht => ?_)
  rw [List.length_drop] at ht
  rw [add_none, hc (j + t) (by omega), List.getElem_drop]

theorem u8_flat (F : List UInt8) : (u8Rows F).flatten = F.map fun b => Value.int .u8 (b.toNat : Int) := by
  unfold u8Rows; induction F with
  | nil => rfl
  | cons x r ih => simp [ih]
theorem cap_is {w : World} {B t sz n cap : Nat} {A : Option Addr} {rows : List (List Value)} (h : Res B w t sz A n cap rows) : n ≤ cap := by
  rcases h.own.2 with ⟨h1, h2⟩ | ⟨g, c, cur, e, _, _, hnc, _⟩
  · simp only [Value.slice.injEq] at h1; omega
  · simp only [Value.slice.injEq] at e; omega
theorem row_bytes {w : World} {B m cap : Nat} {A : Option Addr} {F : List UInt8} (h : Res B w 5 1 A m cap (u8Rows F)) (hm : 0 < m) :
    ∃ g, A = some ⟨g, 0, none⟩ ∧ ∀ t (ht : t < F.length), w.cell? ⟨g, t, none⟩ = some (.int .u8 (F[t].toNat : Int)) := by
  obtain ⟨g, cs, rfl, _, hblk, _, hcs⟩ := h.at_ hm
  have hl : F.length = m := by have := h.len; simpa [u8Rows] using this
  refine ⟨g, rfl, fun t ht => ?_⟩
  rw [hblk.cell, hcs t (by omega), u8_flat, List.getElem?_map, List.getElem?_eq_getElem ht]; rfl
def sliceLen (o : Value) : Nat := match o with
  | .slice _ n _ => n
  | _ => 0

set_option maxHeartbeats 4000000 in
theorem spec_ReadMoney_any (s : ByteArray) (hs : s.size ≤ 100000) (w : World) :
    Calls Tryz.prog 57 #[.string s] w fun e w' => Reads (MoneyIs s) w w' e := by
  obtain ⟨i0, hi0, hz0, hz1, hz2⟩ := info_parts u8Inf
  have HI := Lib.hid (And.intro hi0 (And.intro hz0 (And.intro hz1 hz2))); clear hi0 hz0 hz1 hz2
  have HR0 := Lib.hid (show Res w.heap.size (w.alloc (.cells #[] 5)) 5 1 (some ⟨w.heap.size, 0, none⟩) 0 0 (u8Rows []) from Res.zero w w.heap.size 5 1 (Nat.le_refl _))
  have HB0 := Lib.hid ((Below.refl w.heap.size w).alloc (Nat.le_refl _) (.cells #[] 5))
  have HL := Lib.hid (show s.data.toList.length = s.size from rfl)
  have HP := Lib.hid (fun m (h : MoneyIs s m) => (show (∀ j, (∀ c ∈ (s.data.toList.filter isDg).take j, c = 48) → (s.data.toList.filter isDg).drop j ≠ [] → (((s.data.toList.filter isDg).drop j).length = 1 ∨ ∀ r, (s.data.toList.filter isDg).drop j ≠ 48 :: r) → (s.data.toList.filter isDg).drop j = decL (if m < 0 then -m else m)) ∧ s.data.toList.filter isDg ≠ [] from by
    rw [h.2, S_list]
    exact ⟨fun j h1 h2 h3 => money_strip h.1 h1 h2 h3, money_filter_ne h.1⟩))
  have HF0 := Lib.hid (fun m (h : MoneyIs s m) => money_first h.1 h.2)
  go_enter Tryz.func57, Tryz.ntmps57
  go_wp2
  go_loopw [4, 5] (fun o i wr => ∃ (k m cap : Nat) (A : Option Addr), k ≤ s.size ∧ i = .int .i64 k ∧ o = .slice A m cap ∧ m ≤ k ∧ Hid (Res w.heap.size wr 5 1 A m cap (u8Rows ((s.data.toList.take k).filter isDg))) ∧ Hid (Below w.heap.size w wr)) (fun _ i _ => s.size - (intOf i).toNat)
  case atStart => exact ⟨0, 0, 0, _, by omega, rfl, rfl, by omega, HR0, HB0⟩
  case round =>
    obtain ⟨k, m, cap, A, hk, rfl, rfl, hm, HR, HB⟩ := hrel
    clear HR0 HB0
    by_cases hlt : k < s.size
    · have hLk : k < s.data.toList.length := by rw [HL.out]; exact hlt
      have HGE := Lib.hid (show s.data.toList[k] = s[k] from rfl)
      have HFT := Lib.hid (filter_take hLk)
      by_cases hd1 : s[k].toNat < 48
      · have hd1i : ¬ (48 : Int) ≤ (s[k].toNat : Int) := by omega
        have HE := Lib.hid (show (s.data.toList.take (k + 1)).filter isDg = (s.data.toList.take k).filter isDg from by
          rw [HFT.out, HGE.out, if_neg (by unfold isDg; simp; omega), List.append_nil])
        go_wp2
        go_roundw
        case rel => exact ⟨k + 1, m, cap, A, by omega, by go_num, rfl, by omega, by rw [HE.out]; exact HR, HB⟩
        case measure => simp [intOf]; omega
      by_cases hd2 : 57 < s[k].toNat
      · have hd1i : (48 : Int) ≤ (s[k].toNat : Int) := by omega
        have hd2i : ¬ (s[k].toNat : Int) ≤ 57 := by omega
        have HE := Lib.hid (show (s.data.toList.take (k + 1)).filter isDg = (s.data.toList.take k).filter isDg from by
          rw [HFT.out, HGE.out, if_neg (by unfold isDg; simp; omega), List.append_nil])
        go_wp2
        go_roundw
        case rel => exact ⟨k + 1, m, cap, A, by omega, by go_num, rfl, by omega, by rw [HE.out]; exact HR, HB⟩
        case measure => simp [intOf]; omega
      have hd1i : (48 : Int) ≤ (s[k].toNat : Int) := by omega
      have hd2i : (s[k].toNat : Int) ≤ 57 := by omega
      have HE := Lib.hid (show (s.data.toList.take (k + 1)).filter isDg = (s.data.toList.take k).filter isDg ++ [s[k]] from by
        rw [HFT.out, HGE.out, if_pos (by unfold isDg; simp; omega)])
      go_wp2_with (at_builtin; refine wpList_append_row_at _ rfl _ _ _ rfl w.heap.size 5 i0 _ 1 1 Tryz.underlying28 HI.out.1 HI.out.2.1 HI.out.2.2.1 HI.out.2.2.2 rfl (by decide) (by decide) A m cap _ rfl HR.out [.int .u8 (s[k].toNat : Int)] _ rfl rfl (by simp [Value.oneCell']) (by omega) HB.out.size ?_; intro A2 c2 w5 hR5 hb5 _ _)
      rw [← u8Rows_snoc, ← HE.out] at hR5
      have HR5 := Lib.hid hR5
      have HB5 := Lib.hid (HB.out.trans hb5)
      clear hR5 hb5
      go_wp2
      go_roundw
      case rel => exact ⟨k + 1, m + 1, c2, A2, by omega, by go_num, rfl, by omega, HR5, HB5⟩
      case measure => simp [intOf]; omega
    · have hkn : k = s.size := by omega
      subst hkn
      rw [show s.data.toList.take s.size = s.data.toList from List.take_of_length_le (by rw [HL.out]; exact Nat.le_refl _)] at HR
      generalize s.data.toList.filter isDg = F at HR HP ⊢
      change Hid _ at HP
      have hmF : F.length = m := by have := HR.out.len; simpa [u8Rows] using this
      have HBY0 := Lib.hid (show BytesAt wr (.slice A m cap) (F.drop 0) from by
        rcases Nat.eq_zero_or_pos m with hm0 | hm0
        · subst hm0
          have hF : F = [] := List.eq_nil_of_length_eq_zero hmF
          subst hF
          exact bytesAt_nil _ _ _ HR.out
        · obtain ⟨g, rfl, hg⟩ := row_bytes HR.out hm0
          exact bytesAt_drop hg (by simp [hmF]))
      have HG0 := Lib.hid (show 1 < m → ∃ g, A = some ⟨g, 0, none⟩ ∧ m ≤ cap ∧ ∀ t (ht : t < F.length), wr.cell? ⟨g, t, none⟩ = some (.int .u8 (F[t].toNat : Int)) from fun h1 => by
        obtain ⟨g, rfl, hg⟩ := row_bytes HR.out (by omega)
        exact ⟨g, rfl, cap_is HR.out, hg⟩)
      have HMF := Lib.hid hmF
      clear HR hmF
      obtain ⟨w1, hw1⟩ : ∃ X, X = wr := ⟨_, rfl⟩
      subst hw1
      go_wp2
      go_loopw [4] (fun o wx => ∃ (j q c : Nat) (B : Option Addr), o = .slice B q c ∧ j + q = m ∧ (j = 0 ∨ 1 ≤ q) ∧ Hid (∀ x ∈ F.take j, x = 48) ∧ Hid (BytesAt w1 (.slice B q c) (F.drop j)) ∧ Hid (1 < q → ∃ g, B = some ⟨g, j, none⟩ ∧ q ≤ c ∧ ∀ t (ht : t < F.length), w1.cell? ⟨g, t, none⟩ = some (.int .u8 (F[t].toNat : Int))) ∧ wx = w1) (fun o _ => sliceLen o)
      case atStart => exact ⟨0, m, cap, A, rfl, by omega, .inl rfl, Lib.hid (by simp), HBY0, HG0, rfl⟩
      case round =>
        obtain ⟨j, q, c, B, rfl, hjq, hj1, HZ, HBY, HG, rfl⟩ := hrel
        clear HBY0 HG0
        by_cases h1 : 1 < q
        · obtain ⟨g, rfl, hqc, hcell⟩ := HG.out h1
          have hjF : j < F.length := by rw [HMF.out]; omega
          have cj : wr.cell? ⟨g, j, none⟩ = some (.int .u8 (F[j].toNat : Int)) := hcell j hjF
          have h1i : (1 : Int) < (q : Int) := by omega
          by_cases h48 : F[j].toNat = 48
          · have h48i : ((F[j].toNat : Int) == 48) = true := by simp [h48]
            have HZ2 := Lib.hid (show ∀ x ∈ F.take (j + 1), x = 48 from by
              intro x hx
              rw [List.take_add_one, List.getElem?_eq_getElem hjF, Option.toList_some, List.mem_append, List.mem_singleton] at hx
              rcases hx with hx | hx
              · exact HZ.out x hx
              · rw [hx]; exact UInt8.toNat_inj.1 h48)
            have HBY2 := Lib.hid (bytesAt_drop (g := g) (j := j + 1) (n := q - 1) (c := c - 1) hcell (by rw [List.length_drop, HMF.out]; omega))
            have HG2 := Lib.hid (fun (_ : 1 < q - 1) => (show ∃ g', (some ⟨g, j + 1, none⟩ : Option Addr) = some ⟨g', j + 1, none⟩ ∧ q - 1 ≤ c - 1 ∧ ∀ t (ht : t < F.length), wr.cell? ⟨g', t, none⟩ = some (.int .u8 (F[t].toNat : Int)) from ⟨g, rfl, by omega, hcell⟩))
            clear hcell h48
            generalize F[j].toNat = fj at cj h48i
            go_wp2
            go_roundw
            case rel => exact ⟨j + 1, q - 1, c - 1, _, by first | rfl | (congr 1 <;> omega), by omega, .inr (by omega), HZ2, HBY2, HG2, by trivial⟩
            case measure => simp [sliceLen]; omega
          · have h48i : ((F[j].toNat : Int) == 48) = false := by simp; omega
            have HX := Lib.hid (fun (_ : F.drop j ≠ []) => (show (F.drop j).length = 1 ∨ ∀ r, F.drop j ≠ 48 :: r from .inr (fun r hr => by
              rw [List.drop_eq_getElem_cons hjF] at hr
              injection hr with hr1 _
              exact h48 (by rw [hr1]; rfl))))
            clear hcell h48
            generalize F[j].toNat = fj at cj h48i
            have HD := Lib.hid (fun m (hm : MoneyIs s m) => (show F.drop j = decL (if m < 0 then -m else m) from by
              obtain ⟨hp1, hp2⟩ := HP.out m hm
              have hm1 : 1 ≤ F.length := List.length_pos_iff.2 hp2
              have hne : F.drop j ≠ [] := by
                intro h0
                have h3 := congrArg List.length h0
                rw [List.length_drop] at h3
                have := HMF.out
                simp only [List.length_nil] at h3
                omega
              exact hp1 j HZ.out hne (HX.out hne)))
            have hcv := HBY.out
            unfold BytesAt at hcv
            generalize F.drop j = D at HD hcv
            change Hid _ at HD
            clear HG HX HZ HP
            go_wp2_with fail
            refine (spec_l01Digits_any (S D) _).mono ?_
            rintro e w2 ⟨⟨n1, b, rfl, i1, p1, hb⟩, n2, b2, e2, k0, k1⟩
            obtain ⟨rfl, rfl⟩ : n1 = n2 ∧ b = b2 := by simpa using e2
            clear e2 hcv
            have HB2 := Lib.hid (HB.out.trans (hb.mono HB.out.size)); clear hb
            have HK := Lib.hid (fun m (hm : MoneyIs s m) => (show n1 = (if m < 0 then -m else m) ∧ b = true from by
              obtain ⟨hm1, hm2⟩ := hm.1
              exact p1 (if m < 0 then -m else m) ⟨by split <;> omega, by rw [HD.out m hm]⟩))
            clear p1 i1
            cases b
            · go_wp2
              go_ret2
              exact ⟨0, false, rfl, by unfold In64; omega, fun m hm => absurd (HK.out m hm).2 (by simp), HB2.out⟩
            by_cases h0 : s.size = 0
            · have h0i : ¬ (0 : Int) < (s.size : Int) := by omega
              have HV := Lib.hid (fun m (hm : MoneyIs s m) => (show n1 = m from by obtain ⟨h1, _⟩ := HF0.out m hm; omega))
              go_wp2_with fail
              refine (spec_MoneyText_any (n1) _).mono ?_
              rintro e w3 ⟨rfl, hb3⟩
              have HB3 := Lib.hid (HB2.out.trans (hb3.mono HB2.out.size)); clear hb3
              by_cases hq : S (moneyT (n1)) = s
              · have hql := str_eq hq
                go_wp2
                go_ret2
                exact ⟨n1, true, rfl, by unfold In64; omega, fun m hm => ⟨HV.out m hm, rfl⟩, HB3.out⟩
              · have hql := str_ne hq
                have HQ := Lib.hid hq; clear hq
                go_wp2
                go_ret2
                exact ⟨0, false, rfl, by unfold In64; omega, fun m hm => absurd (by rw [HV.out m hm, moneyT_yes hm.1]; exact hm.2.symm) HQ.out, HB3.out⟩
            have h0p : 0 < s.size := by omega
            have h0i : (0 : Int) < (s.size : Int) := by omega
            by_cases h45 : s[0].toNat = 45
            · have h45i : ((s[0].toNat : Int) == 45) = true := by simp [h45]
              have HV := Lib.hid (fun m (hm : MoneyIs s m) => (show -n1 = m from by
                obtain ⟨_, h2⟩ := HF0.out m hm
                have h3 := (HK.out m hm).1
                rw [if_pos (h2.1 h45)] at h3
                omega))
              clear h45
              go_wp2_with fail
              refine (spec_MoneyText_any (-n1) _).mono ?_
              rintro e w3 ⟨rfl, hb3⟩
              have HB3 := Lib.hid (HB2.out.trans (hb3.mono HB2.out.size)); clear hb3
              by_cases hq : S (moneyT (-n1)) = s
              · have hql := str_eq hq
                go_wp2
                go_ret2
                exact ⟨-n1, true, rfl, by unfold In64; omega, fun m hm => ⟨HV.out m hm, rfl⟩, HB3.out⟩
              · have hql := str_ne hq
                have HQ := Lib.hid hq; clear hq
                go_wp2
                go_ret2
                exact ⟨0, false, rfl, by unfold In64; omega, fun m hm => absurd (by rw [HV.out m hm, moneyT_yes hm.1]; exact hm.2.symm) HQ.out, HB3.out⟩
            · have h45i : ((s[0].toNat : Int) == 45) = false := by simp; omega
              have HV := Lib.hid (fun m (hm : MoneyIs s m) => (show n1 = m from by
                obtain ⟨_, h2⟩ := HF0.out m hm
                have h3 := (HK.out m hm).1
                rw [if_neg (fun h => h45 (h2.2 h))] at h3
                exact h3))
              clear h45
              go_wp2_with fail
              refine (spec_MoneyText_any (n1) _).mono ?_
              rintro e w3 ⟨rfl, hb3⟩
              have HB3 := Lib.hid (HB2.out.trans (hb3.mono HB2.out.size)); clear hb3
              by_cases hq : S (moneyT (n1)) = s
              · have hql := str_eq hq
                go_wp2
                go_ret2
                exact ⟨n1, true, rfl, by unfold In64; omega, fun m hm => ⟨HV.out m hm, rfl⟩, HB3.out⟩
              · have hql := str_ne hq
                have HQ := Lib.hid hq; clear hq
                go_wp2
                go_ret2
                exact ⟨0, false, rfl, by unfold In64; omega, fun m hm => absurd (by rw [HV.out m hm, moneyT_yes hm.1]; exact hm.2.symm) HQ.out, HB3.out⟩
        · have h1i : ¬ (1 : Int) < (q : Int) := by omega
          have HX := Lib.hid (fun (hne : F.drop j ≠ []) => (show (F.drop j).length = 1 ∨ ∀ r, F.drop j ≠ 48 :: r from .inl (by
            have h2 := List.length_pos_iff.2 hne
            have h3 := HMF.out
            rw [List.length_drop] at h2 ⊢
            omega)))
          have HD := Lib.hid (fun m (hm : MoneyIs s m) => (show F.drop j = decL (if m < 0 then -m else m) from by
            obtain ⟨hp1, hp2⟩ := HP.out m hm
            have hm1 : 1 ≤ F.length := List.length_pos_iff.2 hp2
            have hne : F.drop j ≠ [] := by
              intro h0
              have h3 := congrArg List.length h0
              rw [List.length_drop] at h3
              have := HMF.out
              simp only [List.length_nil] at h3
              omega
            exact hp1 j HZ.out hne (HX.out hne)))
          have hcv := HBY.out
          unfold BytesAt at hcv
          generalize F.drop j = D at HD hcv
          change Hid _ at HD
          clear HG HX HZ HP
          go_wp2_with fail
          refine (spec_l01Digits_any (S D) _).mono ?_
          rintro e w2 ⟨⟨n1, b, rfl, i1, p1, hb⟩, n2, b2, e2, k0, k1⟩
          obtain ⟨rfl, rfl⟩ : n1 = n2 ∧ b = b2 := by simpa using e2
          clear e2 hcv
          have HB2 := Lib.hid (HB.out.trans (hb.mono HB.out.size)); clear hb
          have HK := Lib.hid (fun m (hm : MoneyIs s m) => (show n1 = (if m < 0 then -m else m) ∧ b = true from by
            obtain ⟨hm1, hm2⟩ := hm.1
            exact p1 (if m < 0 then -m else m) ⟨by split <;> omega, by rw [HD.out m hm]⟩))
          clear p1 i1
          cases b
          · go_wp2
            go_ret2
            exact ⟨0, false, rfl, by unfold In64; omega, fun m hm => absurd (HK.out m hm).2 (by simp), HB2.out⟩
          by_cases h0 : s.size = 0
          · have h0i : ¬ (0 : Int) < (s.size : Int) := by omega
            have HV := Lib.hid (fun m (hm : MoneyIs s m) => (show n1 = m from by obtain ⟨h1, _⟩ := HF0.out m hm; omega))
            go_wp2_with fail
            refine (spec_MoneyText_any (n1) _).mono ?_
            rintro e w3 ⟨rfl, hb3⟩
            have HB3 := Lib.hid (HB2.out.trans (hb3.mono HB2.out.size)); clear hb3
            by_cases hq : S (moneyT (n1)) = s
            · have hql := str_eq hq
              go_wp2
              go_ret2
              exact ⟨n1, true, rfl, by unfold In64; omega, fun m hm => ⟨HV.out m hm, rfl⟩, HB3.out⟩
            · have hql := str_ne hq
              have HQ := Lib.hid hq; clear hq
              go_wp2
              go_ret2
              exact ⟨0, false, rfl, by unfold In64; omega, fun m hm => absurd (by rw [HV.out m hm, moneyT_yes hm.1]; exact hm.2.symm) HQ.out, HB3.out⟩
          have h0p : 0 < s.size := by omega
          have h0i : (0 : Int) < (s.size : Int) := by omega
          by_cases h45 : s[0].toNat = 45
          · have h45i : ((s[0].toNat : Int) == 45) = true := by simp [h45]
            have HV := Lib.hid (fun m (hm : MoneyIs s m) => (show -n1 = m from by
              obtain ⟨_, h2⟩ := HF0.out m hm
              have h3 := (HK.out m hm).1
              rw [if_pos (h2.1 h45)] at h3
              omega))
            clear h45
            go_wp2_with fail
            refine (spec_MoneyText_any (-n1) _).mono ?_
            rintro e w3 ⟨rfl, hb3⟩
            have HB3 := Lib.hid (HB2.out.trans (hb3.mono HB2.out.size)); clear hb3
            by_cases hq : S (moneyT (-n1)) = s
            · have hql := str_eq hq
              go_wp2
              go_ret2
              exact ⟨-n1, true, rfl, by unfold In64; omega, fun m hm => ⟨HV.out m hm, rfl⟩, HB3.out⟩
            · have hql := str_ne hq
              have HQ := Lib.hid hq; clear hq
              go_wp2
              go_ret2
              exact ⟨0, false, rfl, by unfold In64; omega, fun m hm => absurd (by rw [HV.out m hm, moneyT_yes hm.1]; exact hm.2.symm) HQ.out, HB3.out⟩
          · have h45i : ((s[0].toNat : Int) == 45) = false := by simp; omega
            have HV := Lib.hid (fun m (hm : MoneyIs s m) => (show n1 = m from by
              obtain ⟨_, h2⟩ := HF0.out m hm
              have h3 := (HK.out m hm).1
              rw [if_neg (fun h => h45 (h2.2 h))] at h3
              exact h3))
            clear h45
            go_wp2_with fail
            refine (spec_MoneyText_any (n1) _).mono ?_
            rintro e w3 ⟨rfl, hb3⟩
            have HB3 := Lib.hid (HB2.out.trans (hb3.mono HB2.out.size)); clear hb3
            by_cases hq : S (moneyT (n1)) = s
            · have hql := str_eq hq
              go_wp2
              go_ret2
              exact ⟨n1, true, rfl, by unfold In64; omega, fun m hm => ⟨HV.out m hm, rfl⟩, HB3.out⟩
            · have hql := str_ne hq
              have HQ := Lib.hid hq; clear hq
              go_wp2
              go_ret2
              exact ⟨0, false, rfl, by unfold In64; omega, fun m hm => absurd (by rw [HV.out m hm, moneyT_yes hm.1]; exact hm.2.symm) HQ.out, HB3.out⟩
end Go.Proofs.YtlbllonpodckgaaGreatDoor
