/- Texts are read: ReadMoney, accountOf of the program. -/
import Derived.Test.YtlbllonpodckgaaGreatDoorRead1
import Derived.Test.YtlbllonpodckgaaGreatDoorReadP
namespace Go.Proofs.YtlbllonpodckgaaGreatDoor
open Go.RowKit Go.BigFrame

/-- a reader's answer: a number, true; or not -/
def Reads (text : Int → Prop) (w w' : World) (e : Ending) : Prop := ∃ (n : Int) (b : Bool), e = .returned (.tuple #[.int .i64 n, .bool b]) ∧ In64 n ∧ (∀ m, text m → n = m ∧ b = true) ∧ Below w.heap.size w w'
def MonthIs (s : ByteArray) (m : Int) : Prop := (0 ≤ m ∧ m ≤ 35999) ∧ s = S (monthL m)
theorem impl_ReadMonth_r (s : ByteArray) (w : World) (hE : Env w) : Calls Tryz.prog 126 #[.string s] w fun e w' => Reads (MonthIs s) w w' e :=
  (impl_ReadMonth_any s w hE).mono fun _ _ ⟨n, b, h1, h2, h3, h4⟩ => ⟨n, b, h1, h2, fun m hm => h3 m hm.1 hm.2, h4⟩
def MoneyIs (s : ByteArray) (m : Int) : Prop := (-1000000000000 ≤ m ∧ m ≤ 1000000000000) ∧ s = S (moneyL m)

set_option maxHeartbeats 4000000 in
theorem impl_ReadMoney_any (s : ByteArray) (hs : s.size ≤ 100000) (w : World) (hE : Env w) :
    Calls Tryz.prog 127 #[.string s] w fun e w' => Reads (MoneyIs s) w w' e := by
  have HE := Lib.hid hE; clear hE
  have HP := Lib.hid (fun m (hm : -1000000000000 ≤ m ∧ m ≤ 1000000000000) (h : s = S (moneyL m)) => (show Lib.parseIntB 64 (Lib.replace (Lib.trimPrefix s.data.toList [45]) [46] [] 1) = .ok (if m < 0 then -m else m) ∧ (Lib.trimPrefix s.data.toList [45]).length ≤ 16 ∧ Lib.hasPrefix s.data.toList [45] = decide (m < 0) ∧ s ≠ ⟨#[]⟩ from by
    obtain ⟨p1, p2, p3, p4⟩ := money_cut hm
    rw [h, S_list]
    exact ⟨p1, p2, p3, fun hh => p4 (S_inj (hh.trans (show (⟨#[]⟩ : ByteArray) = S [] from rfl)))⟩))
  go_enter Tryz.func127, Tryz.ntmps127
  go_wp2_with fail
  refine (Tryz.strings_CutPrefix s ⟨#[45]⟩ _).mono ?_
  rw [show (⟨#[45]⟩ : ByteArray).data.toList = [45] from rfl]
  rintro e w' ⟨rfl, rfl⟩
  have hBl : (Lib.trimPrefix s.data.toList [45]).length ≤ 100000 := by
    have : s.data.toList.length = s.size := rfl
    unfold Lib.trimPrefix
    split
    · rw [List.length_drop]; omega
    · omega
  generalize Lib.trimPrefix s.data.toList [45] = L at HP hBl ⊢
  generalize Lib.hasPrefix s.data.toList [45] = ng at HP ⊢
  change Hid _ at HP
  have hsz : (⟨L.toArray⟩ : ByteArray).size = L.length := S_size L
  have hlist : (⟨L.toArray⟩ : ByteArray).data.toList = L := S_list L
  generalize (⟨L.toArray⟩ : ByteArray) = B at hsz hlist ⊢
  have HBl := Lib.hid hlist; clear hlist
  by_cases h16 : L.length ≤ 16
  rotate_left
  · have h16i : (16 : Int) < (L.length : Int) := by omega
    go_wp2
    go_ret2
    exact ⟨0, false, rfl, by unfold In64; omega, fun m hm => absurd (HP.out m hm.1 hm.2).2.1 (by omega), Below.refl _ _⟩
  have h16i : ¬ (16 : Int) < (L.length : Int) := by omega
  by_cases h0 : s = ⟨#[]⟩
  · have H0 := Lib.hid h0
    have h0' : s.toList.isEmpty = true := by rw [h0, ByteArray.toList_eq]; rfl
    clear h0
    go_wp2
    go_ret2
    exact ⟨0, false, rfl, by unfold In64; omega, fun m hm => absurd H0.out (HP.out m hm.1 hm.2).2.2.2, Below.refl _ _⟩
  have h0' := isEmpty_ne h0
  clear h0
  go_wp2_with fail
  obtain ⟨mx, hmx⟩ := HE.out.mx
  refine (Tryz.strings_Replace B ⟨#[46]⟩ ⟨#[]⟩ 1 mx _ (by omega) hmx (by show 1 ≤ 1; omega) (by
    have h9 : (⟨#[]⟩ : ByteArray).size = 0 := rfl
    rw [h9]; omega)).mono ?_
  rw [show (⟨#[46]⟩ : ByteArray).data.toList = [46] from rfl, show (⟨#[]⟩ : ByteArray).data.toList = [] from rfl, HBl.out]
  rintro e w1 ⟨rfl, hb⟩
  clear hmx
  have HB1 := Lib.hid hb
  have HE1 := Lib.hid (HE.out.past hb); clear hb
  have hRl : (Lib.replace L [46] [] 1).length ≤ 100000 := by
    exact Nat.le_trans (replace_len 46 L 1) (by omega)
  generalize Lib.replace L [46] [] 1 = R at HP hRl ⊢
  have hRs : (⟨R.toArray⟩ : ByteArray).size ≤ 1000000 := by rw [show (⟨R.toArray⟩ : ByteArray).size = R.length from S_size R]; omega
  have hlist : (⟨R.toArray⟩ : ByteArray).data.toList = R := S_list R
  generalize (⟨R.toArray⟩ : ByteArray) = Rs at hRs hlist ⊢
  rw [← hlist] at HP
  clear hlist hRl
  go_wp2_with fail
  refine (parse_any Rs hRs _ HE1.out).mono ?_
  rintro e w2 ⟨y, e1, rfl, hy, hn1, hp1, hb⟩
  have HB2 := Lib.hid (HB1.out.trans (hb.mono HB1.out.size))
  have HE2 := Lib.hid (HE1.out.past hb); clear hb
  have HC := Lib.hid (fun m' (hm' : -1000000000000 ≤ m' ∧ m' ≤ 1000000000000) (h : s = S (moneyL m')) => (show e1 = .nilIface ∧ y = (if m' < 0 then -m' else m') ∧ ng = decide (m' < 0) from by
    obtain ⟨q1, _, q3, _⟩ := HP.out m' hm' h
    obtain ⟨a1, a2⟩ := hp1 _ q1
    exact ⟨a2, a1, q3⟩))
  clear hp1 HP hRs
  obtain ⟨v, hv, hvn⟩ : ∃ v, In64 v ∧ v = (if ng = true then (if y = -9223372036854775808 then y else -y) else y) := ⟨_, by
    unfold In64 at hy ⊢
    split
    · split <;> omega
    · exact hy, rfl⟩
  have HV := Lib.hid hv
  have HX := Lib.hid (fun m' (hm' : -1000000000000 ≤ m' ∧ m' ≤ 1000000000000) (h : s = S (moneyL m')) => (show v = m' from by
    obtain ⟨_, q2, q3⟩ := HC.out m' hm' h
    subst q2
    rw [hvn, q3]
    by_cases hm0 : m' < 0
    · rw [if_pos hm0, if_pos (by simpa using hm0), if_neg (by omega)]; omega
    · rw [if_neg hm0, if_neg (by simpa using hm0)]))
  clear hv
  cases ng
  · rw [if_neg (by simp)] at hvn
    subst hvn
    rcases hn1 with rfl | ⟨te1, N1, rfl⟩
    rotate_left
    · go_wp2
      go_ret2
      exact ⟨0, false, rfl, by unfold In64; omega, fun m' hm' => (by have := (HC.out m' hm'.1 hm'.2).1; cases this), HB2.out⟩
    go_wp2_with fail
    refine (impl_MoneyText_any v _ HE2.out.tab).mono ?_
    rintro e w4 ⟨rfl, hb⟩
    have HB4 := Lib.hid (HB2.out.trans (hb.mono HB2.out.size)); clear hb
    by_cases hq : S (moneyT (v)) = s
    · go_wp2
      go_ret2
      exact ⟨v, true, rfl, HV.out, fun m' hm' => ⟨HX.out m' hm'.1 hm'.2, rfl⟩, HB4.out⟩
    · have hcn : ∀ m', MoneyIs s m' → False := fun m' hm' => hq (by rw [HX.out m' hm'.1 hm'.2, moneyT_yes hm'.1, hm'.2])
      have HQ := Lib.hid hcn; clear hcn
      have hql : ((S (moneyT (v))).toList == s.toList) = false := str_ne hq
      go_wp2
      go_ret2
      exact ⟨0, false, rfl, by unfold In64; omega, fun m' hm' => (HQ.out m' hm').elim, HB4.out⟩
  by_cases hmin : y = -9223372036854775808
  · rw [if_pos rfl, if_pos hmin] at hvn
    subst hvn
    subst hmin
    rcases hn1 with rfl | ⟨te1, N1, rfl⟩
    rotate_left
    · go_wp2
      go_ret2
      exact ⟨0, false, rfl, by unfold In64; omega, fun m' hm' => (by have := (HC.out m' hm'.1 hm'.2).1; cases this), HB2.out⟩
    go_wp2_with fail
    rw [show wrap64 9223372036854775808 = -9223372036854775808 by unfold wrap64; omega]
    refine (impl_MoneyText_any (-9223372036854775808) _ HE2.out.tab).mono ?_
    rintro e w4 ⟨rfl, hb⟩
    have HB4 := Lib.hid (HB2.out.trans (hb.mono HB2.out.size)); clear hb
    by_cases hq : S (moneyT ((-9223372036854775808))) = s
    · go_wp2
      go_ret2
      exact ⟨(-9223372036854775808), true, rfl, HV.out, fun m' hm' => ⟨HX.out m' hm'.1 hm'.2, rfl⟩, HB4.out⟩
    · have hcn : ∀ m', MoneyIs s m' → False := fun m' hm' => hq (by rw [HX.out m' hm'.1 hm'.2, moneyT_yes hm'.1, hm'.2])
      have HQ := Lib.hid hcn; clear hcn
      have hql : ((S (moneyT ((-9223372036854775808)))).toList == s.toList) = false := str_ne hq
      go_wp2
      go_ret2
      exact ⟨0, false, rfl, by unfold In64; omega, fun m' hm' => (HQ.out m' hm').elim, HB4.out⟩
  · rw [if_pos rfl, if_neg hmin] at hvn
    subst hvn
    obtain ⟨hy0, hy1⟩ := hy
    rcases hn1 with rfl | ⟨te1, N1, rfl⟩
    rotate_left
    · go_wp2
      go_ret2
      exact ⟨0, false, rfl, by unfold In64; omega, fun m' hm' => (by have := (HC.out m' hm'.1 hm'.2).1; cases this), HB2.out⟩
    go_wp2_with fail
    refine (impl_MoneyText_any (-y) _ HE2.out.tab).mono ?_
    rintro e w4 ⟨rfl, hb⟩
    have HB4 := Lib.hid (HB2.out.trans (hb.mono HB2.out.size)); clear hb
    by_cases hq : S (moneyT ((-y))) = s
    · go_wp2
      go_ret2
      exact ⟨(-y), true, rfl, HV.out, fun m' hm' => ⟨HX.out m' hm'.1 hm'.2, rfl⟩, HB4.out⟩
    · have hcn : ∀ m', MoneyIs s m' → False := fun m' hm' => hq (by rw [HX.out m' hm'.1 hm'.2, moneyT_yes hm'.1, hm'.2])
      have HQ := Lib.hid hcn; clear hcn
      have hql : ((S (moneyT ((-y)))).toList == s.toList) = false := str_ne hq
      go_wp2
      go_ret2
      exact ⟨0, false, rfl, by unfold In64; omega, fun m' hm' => (HQ.out m' hm').elim, HB4.out⟩
theorem nameT_at {k : Nat} (h : k < 10) : S (nameT (k : Int)) = nameB k := by
  rw [S_name, accountName, if_pos (inR_true.2 (by omega))]
  rfl
theorem nameS_inj {i j : Nat} (hi : i < 10) (hj : j < 10) (h : nameB i = nameB j) : i = j := name_inj i hi j hj (by rw [h])

/-- the number of the account with a name, or -1 -/
noncomputable def accP (s : ByteArray) : Int := open Classical in if h : ∃ k : Nat, k < 10 ∧ s = nameB k then ((Classical.choose h : Nat) : Int) else -1
theorem accP_at {s : ByteArray} {k : Nat} (hk : k < 10) (h : s = nameB k) : accP s = (k : Int) := by
  have he : ∃ k : Nat, k < 10 ∧ s = nameB k := ⟨k, hk, h⟩
  obtain ⟨h1, h2⟩ := Classical.choose_spec he
  unfold accP
  rw [dif_pos he]
  rw [nameS_inj h1 hk (h2.symm.trans h)]
theorem accP_no {s : ByteArray} (h : ∀ k : Nat, k < 10 → ¬ s = nameB k) : accP s = -1 := by
  unfold accP
  rw [dif_neg (fun ⟨k, h1, h2⟩ => h k h1 h2)]
theorem accP_in (s : ByteArray) : -1 ≤ accP s ∧ accP s ≤ 9 := by
  by_cases he : ∃ k : Nat, k < 10 ∧ s = nameB k
  · obtain ⟨k, h1, h2⟩ := he
    rw [accP_at h1 h2]; omega
  · rw [accP_no (fun k h1 h2 => he ⟨k, h1, h2⟩)]; omega
theorem accP_name {d : Int} (h : 0 ≤ d ∧ d ≤ 9) : accP (S (nameT d)) = d := by
  obtain ⟨k, rfl⟩ := Int.eq_ofNat_of_zero_le h.1
  exact accP_at (by omega) (nameT_at (by omega))

theorem run_index_row {ty et : TypeId} {n : Nat} {cs : Array Value} {v : Value} (i : Nat) (hu : Tryz.prog.underlying ty = some (.array n et)) (he : Tryz.prog.plainKey et = true) (hs : ∃ inf, Tryz.prog.info? et = some inf ∧ Tryz.prog.cellsOf et = 1) (hi : i < n) (hx : cs[i]? = some v) (w : World) :
    (Instr.index ty (.agg cs) (.int .i64 (i : Int))).run Tryz.prog w = .ok v w := by
  obtain ⟨inf, h1, h2⟩ := hs
  have h3 : (0 : Int) ≤ (i : Int) ∧ (i : Int) < (n : Int) := by omega
  have h4 := Go.run_part_plain (P := Tryz.prog) (w := w) he (off := i) hx
  simp only [Instr.index, asIntOf, Sem.run_bind, Sem.run_pure, Result.andThen_ok, run_underlying hu, h3, and_self, if_true, Go.run_sizeOf w h1, h2, Nat.mul_one, Int.toNat_natCast, h4]
theorem wpList_index_row {ops : Array Oper} {rest : List Oper} {o : Oper} {a : Act} {w : World} {Q : Exit → Act → World → Prop} (hgd : o.guard = none) (ty : TypeId) (x ix : Operand) (ho : o.op = .index ty x ix)
    (cs : Array Value) (hxa : a.eval x = .agg cs) (i : Nat) (hxi : a.eval ix = .int .i64 (i : Int)) {et : TypeId} {n : Nat} {v : Value} (hu : Tryz.prog.underlying ty = some (.array n et)) (he : Tryz.prog.plainKey et = true) (hs : ∃ inf, Tryz.prog.info? et = some inf ∧ Tryz.prog.cellsOf et = 1) (hi : i < n) (hx : cs[i]? = some v)
    (h : wpList Tryz.prog ops Q rest (a.put o.dst v) w) : wpList Tryz.prog ops Q (o :: rest) a w :=
  wpList_plain hgd fun _ hK => by
    unfold Oper.wp execOp
    simp only [ho, hxa, hxi, Sem.run_bind, Sem.run_pure, Result.andThen_ok, run_index_row i hu he hs hi hx]
    exact hK _ _ h
theorem strInfo : ∃ inf, Tryz.prog.info? 9 = some inf ∧ Tryz.prog.cellsOf 9 = 1 := by
  have h : (Tryz.prog.info? 9).isSome = true := by kernel_rfl
  obtain ⟨inf, hinf⟩ := Option.isSome_iff_exists.1 h
  exact ⟨inf, hinf, by kernel_rfl⟩
theorem strKey : Tryz.prog.plainKey 9 = true := by kernel_rfl
theorem namesInfo : (Tryz.prog.info? 175).map (·.size) = some (nameL.map Value.string).length := by kernel_rfl
set_option maxRecDepth 20000 in
set_option maxHeartbeats 4000000 in
theorem impl_accountOf_any (s : ByteArray) (w : World) (hN : Names w) :
    Calls Tryz.prog 128 #[.string s] w fun e w' => e = .returned (.int .i64 (accP s)) ∧ w = w' := by
  have HNC := Lib.hid (show ∀ (j : Nat) (v : Value), (nameL.map Value.string)[j]? = some v → w.cell? ((⟨0, 0, none⟩ : Addr).add j) = some v from fun j v hv => by
    rw [add_none, Nat.zero_add]
    rw [List.getElem?_map] at hv
    obtain ⟨b, hb, rfl⟩ := Option.map_eq_some_iff.1 hv
    have hj : j < 10 := (List.getElem?_eq_some_iff.1 hb).1
    rw [hN j hj]
    unfold nameB
    rw [List.getD_eq_getElem?_getD, hb]; rfl)
  have HNA := Lib.hid (show ∀ k : Nat, k < 10 → (nameL.map Value.string)[k]? = some (.string (nameB k)) from fun k hk => by
    rw [List.getElem?_map, nameB, List.getD_eq_getElem?_getD]
    have : k < nameL.length := hk
    rw [List.getElem?_eq_getElem this]; rfl)
  have HNI := Lib.hid namesInfo
  have hNL : (nameL.map Value.string).length = 10 := rfl
  obtain ⟨NA, hNA⟩ : ∃ NA, nameL.map Value.string = NA := ⟨_, rfl⟩
  rw [hNA] at HNC HNA HNI hNL
  clear hNA
  go_enter Tryz.func128, Tryz.ntmps128
  go_wp2_with (refine wpList_load_agg rfl 175 _ rfl ⟨0, 0, none⟩ rfl NA HNC.out _ Tryz.underlying175 rfl HNI.out ?_)
  go_loopw [6] (fun i wr => ∃ k : Nat, k ≤ 10 ∧ i = .int .i64 k ∧ Hid (∀ j : Nat, j < k → ¬ s = nameB j) ∧ wr = w) (fun i _ => 10 - (intOf i).toNat)
  case atStart => exact ⟨0, by omega, rfl, Lib.hid (fun j hj => absurd hj (by omega)), rfl⟩
  case round =>
    obtain ⟨k, hk, rfl, HNO, rfl⟩ := hrel
    by_cases hlt : k < 10
    · have hg := HNA.out k hlt
      obtain ⟨nk, hnk⟩ : ∃ nk, nameB k = nk := ⟨_, rfl⟩
      rw [hnk] at hg
      have HNK := Lib.hid hnk; clear hnk
      have HG := Lib.hid hg; clear hg
      have hki : (k : Int) < 10 := by omega
      by_cases hq : s = nk
      · have hql := str_eq hq
        have HQ := Lib.hid hq; clear hq
        go_wp2_with (refine wpList_index_row rfl 175 _ _ rfl NA.toArray rfl k rfl Tryz.underlying175 strKey strInfo hlt (by rw [List.getElem?_toArray]; exact HG.out) ?_)
        go_ret
        exact ⟨by rw [accP_at hlt (HQ.out.trans HNK.out.symm)]; rfl, rfl⟩
      · have hql := str_ne hq
        have HQ := Lib.hid hq; clear hq
        go_wp2_with (refine wpList_index_row rfl 175 _ _ rfl NA.toArray rfl k rfl Tryz.underlying175 strKey strInfo hlt (by rw [List.getElem?_toArray]; exact HG.out) ?_)
        go_roundw
        case rel => exact ⟨k + 1, by omega, by go_num, Lib.hid (fun j hj => by
          rcases Nat.lt_or_ge j k with h | h
          · exact HNO.out j h
          · rw [show j = k by omega, HNK.out]; exact HQ.out), trivial⟩
        case measure => simp [intOf]; omega
    · have hkn : k = 10 := by omega
      subst hkn
      go_wp2
      go_ret
      exact ⟨by rw [accP_no (fun j hj => HNO.out j hj)]; rfl, rfl⟩
end Go.Proofs.YtlbllonpodckgaaGreatDoor
