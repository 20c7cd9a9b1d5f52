/- Parts of a proof, one after another: Cols, PolS, Minus, PolS2. No condition. -/
import Derived.Test.YtkdfdbcpbgganaaGreatDoorK1
import Derived.Test.YtkdfdbcpbgganaaGreatDoorK2
import Derived.Test.YtkdfdbcpbgganaaGreatDoorK8
import Derived.Test.YtkdfdbcpbgganaaGreatDoorK9
import Derived.Test.YtkdfdbcpbgganaaGreatDoorK11
import Derived.Deep.Cut
import Derived.Deep.DeepCutAuto
/- The list of columns of a life table: the program's contract. -/
section
namespace Go.Proofs.YtkdfdbcpbgganaaGreatDoor
open Go.RowKit Go.BigFrame

theorem Columns.info : (Tryz.prog.info? 101).map (fun i => (i.zero, i.size, i.bytes)) = some (some (.agg #[.int .i64 0, .int .i64 0, .int .i64 0, .int .i64 0]), 4, 32) := by kernel_rfl
theorem Columns.size : (Tryz.prog.info? 101).map (·.size) = some 4 := by kernel_rfl
theorem columnsLen_any (A : Option Addr) (n cap : Nat) (w : World) :
    Calls Tryz.prog 104 #[.slice A n cap] w fun e w' => e = .returned (.int .i64 n) ∧ w = w' := by
  go_enter Tryz.func104, Tryz.ntmps104
  go_wp2
  go_ret
  exact ⟨rfl, rfl⟩
abbrev colRow (xs : List Int) (rate : Int) (k : Nat) : List Value := [.int .i64 (dC xs rate k), .int .i64 (nC xs rate k), .int .i64 (cC xs rate k), .int .i64 (mC xs rate k)]
def colRows (xs : List Int) (rate : Int) (top : Nat) : List (List Value) := (List.range top).map (colRow xs rate)
theorem colRows_get {xs : List Int} {rate : Int} {top k : Nat} (h : k < top) : (colRows xs rate top)[k]? = some (colRow xs rate k) := by simp [colRows, h]
/-- the rows from k on are there -/
def FromUp (cs : Array Value) (xs : List Int) (rate : Int) (k top : Nat) : Prop := ∀ j : Nat, k ≤ j → j < top → ∀ (i : Nat) (v : Value), (colRow xs rate j)[i]? = some v → cs[j * 4 + i]? = some v
theorem FromUp.step {cs : Array Value} {xs : List Int} {rate : Int} {k top : Nat} (h : FromUp cs xs rate (k + 1) top) (hs : cs.size = top * 4) (hk : k < top) : FromUp (putAt cs (k * 4) (colRow xs rate k)) xs rate k top := by
  intro j hj hjt i v hv
  have hi : i < 4 := (List.getElem?_eq_some_iff.1 hv).1
  have hl : (colRow xs rate k).length = 4 := rfl
  rw [putAt_get (by omega)]
  by_cases e : j = k
  · subst e
    rw [if_neg (by omega), if_pos (by omega), show j * 4 + i - j * 4 = i by omega]; exact hv
  · rw [if_neg (by omega), if_neg (by omega)]
    exact h j (by omega) hjt i v hv
theorem FromUp.rd {w : World} {g : Nat} {t : TypeId} {cs : Array Value} {xs : List Int} {rate : Int} {top : Nat} (hb : Blk w g t cs) (h : FromUp cs xs rate 0 top) : Rd w w.heap.size (some ⟨g, 0, none⟩) 4 (colRows xs rate top) := by
  refine .inr ⟨⟨g, 0, none⟩, rfl, hb.lt, fun k r hr => ?_⟩
  have hk : k < top := by have := (List.getElem?_eq_some_iff.1 hr).1; simpa [colRows] using this
  rw [colRows_get hk] at hr
  injection hr with hr
  subst hr
  refine ⟨rfl, fun j v hv => ?_⟩
  rw [add_none, hb.cell, Nat.zero_add]
  exact h k (by omega) hk j v hv

set_option maxHeartbeats 8000000 in
theorem impl_columnsOf_any (first : Int) (A : Option Addr) (n cap : Nat) (xs : List Int) (rate : Int) (w : World) (hT : LiesT w A n xs) (T : TabOk first xs) (hr : 0 ≤ rate ∧ rate ≤ 200) :
    Calls Tryz.prog 69 #[.agg #[.int .i64 first, .slice A n cap], .int .i64 rate] w fun e w' => ∃ g, e = .returned (.slice (some ⟨g, 0, none⟩) (151 - first).toNat (151 - first).toNat) ∧ Rd w' w'.heap.size (some ⟨g, 0, none⟩) 4 (colRows xs rate (151 - first).toNat) ∧ Below w.heap.size w w' := by
  have hbw : Below w.heap.size w (w.alloc (.cells #[.int .i64 first, .slice A n cap] 26)) := (Below.refl _ w).alloc (Nat.le_refl _) _
  have HB := Lib.hid (Blk.new w 26 #[.int .i64 first, .slice A n cap])
  have HT := Lib.hid (hT.past hbw); clear hT
  obtain ⟨r1, r2⟩ := hr
  have T1 := T.first0; have T2 := T.first1
  have HTab := Lib.hid T; clear T
  obtain ⟨top, htop⟩ := Int.eq_ofNat_of_zero_le (show 0 ≤ 151 - first by omega)
  have HE := Lib.hid (show (151 - first).toNat = top by omega)
  rw [HE.out]
  have htopi : 150 - first + 1 = (top : Int) := by omega
  have htop1 : top ≤ 151 := by omega
  have htop2 : 51 ≤ top := by omega
  have HTop := Lib.hid htop; clear htop
  have HD := Lib.hid (fun k : Nat => dC_bound HTab.out r1 k)
  have HCb := Lib.hid (fun k : Nat => cC_bound HTab.out r1 k)
  have HNb := Lib.hid (fun k : Nat => nC_bound HTab.out r1 k)
  have HMb := Lib.hid (fun k : Nat => mC_bound HTab.out r1 k)
  obtain ⟨i0, hi0, hz0, hz1, hz2⟩ := info_parts Columns.info
  have hmk : ∀ W : World, (Instr.makeSlice 98 (.int .i64 (top : Int)) (.int .i64 (top : Int))).run Tryz.prog W = .ok (.slice (some ⟨W.heap.size, 0, none⟩) top top) (W.alloc (.cells (madeCells (Value.agg #[.int .i64 0, .int .i64 0, .int .i64 0, .int .i64 0]).cells (top * 4)) 101)) := fun W => by
    have h := run_make_rowN (P := Tryz.prog) 98 101 i0 _ Tryz.underlying98 hi0 hz0 .i64 .i64 top top (Nat.le_refl _) (by rw [hz2]; omega) (by omega) W
    rw [hz1] at h
    exact h
  clear hi0 hz0 hz1 hz2
  have HMK := Lib.hid hmk; clear hmk
  go_enter Tryz.func69, Tryz.ntmps69
  go_wp2_with fail
  refine (impl_discounts_any rate _ ⟨r1, r2⟩).mono ?_
  rintro e w1 ⟨AD, cD, rfl, hD, hb1⟩
  have HB1 := Lib.hid (HB.out.below' hb1)
  have HT1 := Lib.hid (HT.out.past hb1)
  have HDR := Lib.hid hD.rd; clear hD
  have hbw1 : Below w.heap.size w w1 := hbw.trans (hb1.mono (by simp))
  have hs1 : w.heap.size + 1 ≤ w1.heap.size := by have := hb1.size; simpa using this
  have c0 : w1.cell? ⟨w.heap.size, 0, none⟩ = some (.int .i64 first) := HB1.out.cell 0
  have hmk := HMK.out w1
  go_wp2_with (first | (go_at_call 104; refine (columnsLen_any _ top top _).mono ?_; rintro e w' ⟨rfl, rfl⟩))
  clear hmk
  go_loopw [8] (fun i wr => ∃ r : Nat, r ≤ top ∧ i = .int .i64 ((r : Int) - 1) ∧ (∃ cs, Blk wr w1.heap.size 101 cs ∧ cs.size = top * 4 ∧ FromUp cs xs rate r top) ∧ Blk wr (w1.heap.size + 1) 101 #[.int .i64 0, .int .i64 (nC xs rate r), .int .i64 0, .int .i64 (mC xs rate r)] ∧ Below w1.heap.size w1 wr) (fun i _ => (intOf i + 1).toNat)
  case atStart =>
    refine ⟨top, by omega, rfl, ⟨_, (Blk.new w1 _ _).alloc _, by simp [madeCells], fun j h1 h2 => by omega⟩, ?_, ((Below.refl _ w1).alloc (Nat.le_refl _) _).alloc (by simp) _⟩
    rw [nC_zero HTab.out top (by have := HTab.out.len1; have := HTab.out.top; have := HTop.out; omega), mC_zero HTab.out top (by have := HTab.out.len1; have := HTab.out.top; have := HTop.out; omega)]
    have := Blk.new (w1.alloc (.cells (madeCells (Value.agg #[.int .i64 0, .int .i64 0, .int .i64 0, .int .i64 0]).cells (top * 4)) 101)) 101 #[.int .i64 0, .int .i64 0, .int .i64 0, .int .i64 0]
    rw [World.size_alloc] at this
    exact this
  case round =>
    obtain ⟨r, hrt, rfl, ⟨cs, hO, hcs, hup⟩, hS, hb⟩ := hrel
    have HO := Lib.hid hO; clear hO
    have HS := Lib.hid hS; clear hS
    have HUp := Lib.hid hup; clear hup
    have Hcs := Lib.hid hcs; clear hcs
    have hsz := hb.size
    have hO1 := HO.out.lt
    have hS1 := HS.out.lt
    cases r with
    | zero =>
      rw [show (((0 : Nat) : Int) - 1) = -1 from rfl]
      go_wp2
      go_ret
      exact ⟨_, rfl, FromUp.rd HO.out HUp.out, hbw1.trans (hb.mono (by omega))⟩
    | succ k =>
      rw [show (((k + 1 : Nat) : Int) - 1) = (k : Int) by omega]
      have hkt : k < top := by omega
      have hki : (k : Int) < (top : Int) := by omega
      have HBr := Lib.hid ((HB1.out.below hb (by omega)).alloc (.cells #[.int .i64 0, .int .i64 0, .int .i64 0, .int .i64 0] 101))
      have HTr := Lib.hid (HT1.out.past (hb.alloc hsz (.cells #[.int .i64 0, .int .i64 0, .int .i64 0, .int .i64 0] 101)))
      have HSr := Lib.hid (HS.out.alloc (.cells #[.int .i64 0, .int .i64 0, .int .i64 0, .int .i64 0] 101))
      have HOr := Lib.hid (HO.out.alloc (.cells #[.int .i64 0, .int .i64 0, .int .i64 0, .int .i64 0] 101))
      have HCr := Lib.hid (Blk.new wr 101 #[.int .i64 0, .int .i64 0, .int .i64 0, .int .i64 0])
      have hbr := hb.alloc hsz (.cells #[.int .i64 0, .int .i64 0, .int .i64 0, .int .i64 0] 101)
      have HDr := Lib.hid (HDR.out.past hbr)
      obtain ⟨d1, d2⟩ := HD.out k
      obtain ⟨wR, hwR⟩ : ∃ wR, wr.alloc (.cells #[.int .i64 0, .int .i64 0, .int .i64 0, .int .i64 0] 101) = wR := ⟨_, rfl⟩
      have HWR := Lib.hid hwR
      rw [hwR] at HBr HTr HSr HOr HCr hbr HDr
      have hR0 : wr.heap.size + 1 = wR.heap.size := by rw [← hwR]; simp
      clear hwR
      by_cases hk120 : k ≤ 120
      · have hk120i : (k : Int) ≤ 120 := by omega
        obtain ⟨ad, hAD, had, hck⟩ := HDr.out.int_at (discL_get rate (show k < 121 by omega))
        subst hAD
        have q0 := fun y : Past wR => Past.cell (p := ⟨w.heap.size, 0, none⟩) (v := .int .i64 first) (HBr.out.cell 0) y
        have q1 := fun y : Past wR => Past.cell hck y
        have hcT := Lib.hid (Blk.agg_past (cs := [.int .i64 first, .slice A n cap]) HBr.out 0 [.int .i64 first, .slice A n cap] rfl)
        have QD := Lib.hid (show lv xs k * disc rate k = dC xs rate k from rfl)
        have hd2 := QD.out
        have HEk := Lib.hid (show (first + (k : Int) - first).toNat = k by omega)
        go_wp2
        rw [HWR.out]
        refine wp_region_past_tail 12 (by kernel_rfl) (by kernel_rfl) ?_
        simp only [List.take_succ_cons, List.take_zero, List.drop_succ_cons, List.drop_zero]
        repeat (first | (go_big_quiet_want; (first | (refine quiet_load_agg 26 _ rfl ⟨w.heap.size, 0, none⟩ rfl [.int .i64 first, .slice A n cap] hcT.out _ Tryz.underlying26 rfl Tab.size ?_)); go_simp; go_big_quiet_on) | go_big_quiet_step ((go_at_call 105; exact past_call ((impl_LifeTable_lives_any first A n cap xs (first + (k : Int)) _ (HTr.out.at_past _) HTab.out ⟨by omega, by omega⟩).mono (by rw [HEk.out]; exact fun _ _ h => h)))))
        refine wpQuiet_nil ?_
        rintro _ ⟨y, rfl⟩
        clear q0 q1 hcT
        have HCy := Lib.hid (HCr.out.below' y.2)
        have HBy := Lib.hid (HBr.out.below' y.2)
        have HTy := Lib.hid (HTr.out.past y.2)
        have HSy := Lib.hid (HSr.out.below' y.2)
        have HOy := Lib.hid (HOr.out.below' y.2)
        have HDy := Lib.hid (HDr.out.past y.2)
        have hby : Below w1.heap.size w1 y.1 := hbr.trans (y.2.mono hbr.size)
        have fz : y.1.frozen? ⟨wr.heap.size, 0, none⟩ = false := HCy.out.frozen 0
        have cz : y.1.cell? ⟨wr.heap.size, 0, none⟩ = some (.int .i64 0) := HCy.out.cell 0
        go_upto_region 10 with (fail)
        clear hd2
        obtain ⟨wa, hwa⟩ : ∃ wa, y.1.setCell ⟨wr.heap.size, 0, none⟩ (.int .i64 (dC xs rate k)) = wa := ⟨_, rfl⟩
        have HCa : Hid (Blk wa wr.heap.size 101 #[.int .i64 (dC xs rate k), .int .i64 0, .int .i64 0, .int .i64 0]) := Lib.hid (by have h9 := HCy.out.set_ 0 (.int .i64 (dC xs rate k)); rw [hwa] at h9; exact h9)
        have HBa := Lib.hid (HBy.out.far (p := ⟨wr.heap.size, 0, none⟩) (by show w.heap.size ≠ wr.heap.size; omega) (.int .i64 (dC xs rate k))); rw [hwa] at HBa
        have HSa := Lib.hid (HSy.out.far (p := ⟨wr.heap.size, 0, none⟩) (by show (w1.heap.size + 1) ≠ wr.heap.size; omega) (.int .i64 (dC xs rate k))); rw [hwa] at HSa
        have HOa := Lib.hid (HOy.out.far (p := ⟨wr.heap.size, 0, none⟩) (by show w1.heap.size ≠ wr.heap.size; omega) (.int .i64 (dC xs rate k))); rw [hwa] at HOa
        have hba := hby.setCell (p := ⟨wr.heap.size, 0, none⟩) (by show w1.heap.size ≤ wr.heap.size; omega) (.int .i64 (dC xs rate k)); rw [hwa] at hba
        have HTa := Lib.hid (HT1.out.past hba)
        have HDa := Lib.hid (HDR.out.past hba)
        rw [hwa]
        clear hwa
        clear fz cz
        by_cases hk119 : k + 1 ≤ 120
        · have hk119i : (k : Int) + 1 ≤ 120 := by omega
          obtain ⟨ad2, hAD2, had2, hck2⟩ := HDa.out.int_at (discL_get rate (show k + 1 < 121 by omega))
          injection hAD2 with hAD2; subst hAD2
          rw [show ad.add (k + 1) = ⟨ad.block, ad.off + (k + 1), none⟩ from by simp [Addr.add]] at hck2
          have q0 := fun y : Past wa => Past.cell (p := ⟨w.heap.size, 0, none⟩) (v := .int .i64 first) (HBa.out.cell 0) y
          have q1 := fun y : Past wa => Past.cell hck2 y
          have hcT := Lib.hid (Blk.agg_past (cs := [.int .i64 first, .slice A n cap]) HBa.out 0 [.int .i64 first, .slice A n cap] rfl)
          have QC := Lib.hid (show (lv xs k - lv xs (k + 1)) * disc rate (k + 1) = cC xs rate k from rfl)
          have hc2 := QC.out
          obtain ⟨g1, g2⟩ := HCb.out k
          obtain ⟨g3, g4⟩ := HD.out (k + 1)
          have HEk := Lib.hid (show (first + (k : Int) - first).toNat = k by omega)
          go_wp2
          refine wp_region_past_tail 13 (by kernel_rfl) (by kernel_rfl) ?_
          simp only [List.take_succ_cons, List.take_zero, List.drop_succ_cons, List.drop_zero]
          repeat (first | (go_big_quiet_want; (first | (refine quiet_load_agg 26 _ rfl ⟨w.heap.size, 0, none⟩ rfl [.int .i64 first, .slice A n cap] hcT.out _ Tryz.underlying26 rfl Tab.size ?_)); go_simp; go_big_quiet_on) | go_big_quiet_step ((go_at_call 106; exact past_call ((impl_LifeTable_deaths_any first A n cap xs (first + (k : Int)) _ (HTa.out.at_past _) HTab.out ⟨by omega, by omega⟩).mono (by rw [HEk.out]; exact fun _ _ h => h)))))
          refine wpQuiet_nil ?_
          rintro _ ⟨z, rfl⟩
          clear q0 q1 hcT
          have HCz := Lib.hid (HCa.out.below' z.2)
          have HBz := Lib.hid (HBa.out.below' z.2)
          have HTz := Lib.hid (HTa.out.past z.2)
          have HSz := Lib.hid (HSa.out.below' z.2)
          have HOz := Lib.hid (HOa.out.below' z.2)
          have HDz := Lib.hid (HDa.out.past z.2)
          have hbz : Below w1.heap.size w1 z.1 := hba.trans (z.2.mono hba.size)
          have fz : z.1.frozen? ⟨wr.heap.size, 2, none⟩ = false := HCz.out.frozen 2
          have cz : z.1.cell? ⟨wr.heap.size, 2, none⟩ = some (.int .i64 0) := HCz.out.cell 2
          go_upto_region 12 with (fail)
          clear hc2
          obtain ⟨wv, hwv⟩ : ∃ wv, z.1.setCell ⟨wr.heap.size, 2, none⟩ (.int .i64 (cC xs rate k)) = wv := ⟨_, rfl⟩
          have HCv : Hid (Blk wv wr.heap.size 101 #[.int .i64 (dC xs rate k), .int .i64 0, .int .i64 (cC xs rate k), .int .i64 0]) := Lib.hid (by have h9 := HCz.out.set_ 2 (.int .i64 (cC xs rate k)); rw [hwv] at h9; exact h9)
          have HBv := Lib.hid (HBz.out.far (p := ⟨wr.heap.size, 2, none⟩) (by show w.heap.size ≠ wr.heap.size; omega) (.int .i64 (cC xs rate k))); rw [hwv] at HBv
          have HSv := Lib.hid (HSz.out.far (p := ⟨wr.heap.size, 2, none⟩) (by show (w1.heap.size + 1) ≠ wr.heap.size; omega) (.int .i64 (cC xs rate k))); rw [hwv] at HSv
          have HOv := Lib.hid (HOz.out.far (p := ⟨wr.heap.size, 2, none⟩) (by show w1.heap.size ≠ wr.heap.size; omega) (.int .i64 (cC xs rate k))); rw [hwv] at HOv
          have hbv := hbz.setCell (p := ⟨wr.heap.size, 2, none⟩) (by show w1.heap.size ≤ wr.heap.size; omega) (.int .i64 (cC xs rate k)); rw [hwv] at hbv
          have HTv := Lib.hid (HT1.out.past hbv)
          have HDv := Lib.hid (HDR.out.past hbv)
          rw [hwv]
          clear hwv
          clear fz cz
          have s1 : wv.cell? ⟨w1.heap.size + 1, 1, none⟩ = some (.int .i64 (nC xs rate (k + 1))) := HSv.out.cell 1
          have c0 : wv.cell? ⟨wr.heap.size, 0, none⟩ = some (.int .i64 (dC xs rate k)) := HCv.out.cell 0
          have sf : wv.frozen? ⟨w1.heap.size + 1, 1, none⟩ = false := HSv.out.frozen 1
          obtain ⟨n1, n2⟩ := HNb.out (k + 1)
          obtain ⟨n3, n4⟩ := HD.out (k + 1)
          have hns : nC xs rate (k + 1) + dC xs rate k = nC xs rate k := by rw [nC_step HTab.out k]; omega
          go_upto_region 13 with (fail)
          have HNS := Lib.hid hns; clear hns
          obtain ⟨we, hwe⟩ : ∃ we, wv.setCell ⟨(w1.heap.size + 1), 1, none⟩ (.int .i64 (nC xs rate k)) = we := ⟨_, rfl⟩
          have HCe := Lib.hid (HCv.out.far (p := ⟨(w1.heap.size + 1), 1, none⟩) (by show wr.heap.size ≠ (w1.heap.size + 1); omega) (.int .i64 (nC xs rate k))); rw [hwe] at HCe
          have HBe := Lib.hid (HBv.out.far (p := ⟨(w1.heap.size + 1), 1, none⟩) (by show w.heap.size ≠ (w1.heap.size + 1); omega) (.int .i64 (nC xs rate k))); rw [hwe] at HBe
          have HSe : Hid (Blk we (w1.heap.size + 1) 101 #[.int .i64 0, .int .i64 (nC xs rate k), .int .i64 0, .int .i64 (mC xs rate (k + 1))]) := Lib.hid (by have h9 := HSv.out.set_ 1 (.int .i64 (nC xs rate k)); rw [hwe] at h9; exact h9)
          have HOe := Lib.hid (HOv.out.far (p := ⟨(w1.heap.size + 1), 1, none⟩) (by show w1.heap.size ≠ (w1.heap.size + 1); omega) (.int .i64 (nC xs rate k))); rw [hwe] at HOe
          have hbe := hbv.setCell (p := ⟨(w1.heap.size + 1), 1, none⟩) (by show w1.heap.size ≤ (w1.heap.size + 1); omega) (.int .i64 (nC xs rate k)); rw [hwe] at hbe
          have HTe := Lib.hid (HT1.out.past hbe)
          have HDe := Lib.hid (HDR.out.past hbe)
          rw [hwe]
          clear hwe
          clear s1 c0 sf
          have s3 : we.cell? ⟨w1.heap.size + 1, 3, none⟩ = some (.int .i64 (mC xs rate (k + 1))) := HSe.out.cell 3
          have c2 : we.cell? ⟨wr.heap.size, 2, none⟩ = some (.int .i64 (cC xs rate k)) := HCe.out.cell 2
          have sf : we.frozen? ⟨w1.heap.size + 1, 3, none⟩ = false := HSe.out.frozen 3
          obtain ⟨m1, m2⟩ := HMb.out (k + 1)
          obtain ⟨m3, m4⟩ := HCb.out k
          have hms : mC xs rate (k + 1) + cC xs rate k = mC xs rate k := by rw [mC_step HTab.out k]; omega
          go_upto_region 14 with (fail)
          have HMS := Lib.hid hms; clear hms
          obtain ⟨wf, hwf⟩ : ∃ wf, we.setCell ⟨(w1.heap.size + 1), 3, none⟩ (.int .i64 (mC xs rate k)) = wf := ⟨_, rfl⟩
          have HCf := Lib.hid (HCe.out.far (p := ⟨(w1.heap.size + 1), 3, none⟩) (by show wr.heap.size ≠ (w1.heap.size + 1); omega) (.int .i64 (mC xs rate k))); rw [hwf] at HCf
          have HBf := Lib.hid (HBe.out.far (p := ⟨(w1.heap.size + 1), 3, none⟩) (by show w.heap.size ≠ (w1.heap.size + 1); omega) (.int .i64 (mC xs rate k))); rw [hwf] at HBf
          have HSf : Hid (Blk wf (w1.heap.size + 1) 101 #[.int .i64 0, .int .i64 (nC xs rate k), .int .i64 0, .int .i64 (mC xs rate k)]) := Lib.hid (by have h9 := HSe.out.set_ 3 (.int .i64 (mC xs rate k)); rw [hwf] at h9; exact h9)
          have HOf := Lib.hid (HOe.out.far (p := ⟨(w1.heap.size + 1), 3, none⟩) (by show w1.heap.size ≠ (w1.heap.size + 1); omega) (.int .i64 (mC xs rate k))); rw [hwf] at HOf
          have hbf := hbe.setCell (p := ⟨(w1.heap.size + 1), 3, none⟩) (by show w1.heap.size ≤ (w1.heap.size + 1); omega) (.int .i64 (mC xs rate k)); rw [hwf] at hbf
          have HTf := Lib.hid (HT1.out.past hbf)
          have HDf := Lib.hid (HDR.out.past hbf)
          rw [hwf]
          clear hwf
          clear s3 c2 sf
          have s1 : wf.cell? ⟨w1.heap.size + 1, 1, none⟩ = some (.int .i64 (nC xs rate k)) := HSf.out.cell 1
          have s3 : wf.cell? ⟨w1.heap.size + 1, 3, none⟩ = some (.int .i64 (mC xs rate k)) := HSf.out.cell 3
          have e1 : wf.cell? ⟨wr.heap.size, 1, none⟩ = some (.int .i64 0) := HCf.out.cell 1
          have e3 : wf.cell? ⟨wr.heap.size, 3, none⟩ = some (.int .i64 0) := HCf.out.cell 3
          have fz1 : wf.frozen? ⟨wr.heap.size, 1, none⟩ = false := HCf.out.frozen 1
          have fz3 : wf.frozen? ⟨wr.heap.size, 3, none⟩ = false := HCf.out.frozen 3
          have hne : ¬ w1.heap.size + 1 = wr.heap.size := by omega
          have hne2 : ¬ wr.heap.size = w1.heap.size + 1 := by omega
          go_region
          obtain ⟨wg, hwg⟩ : ∃ wg, ((wf.setCell ⟨wr.heap.size, 1, none⟩ (.int .i64 (nC xs rate k))).setCell ⟨wr.heap.size, 3, none⟩ (.int .i64 (mC xs rate k))).drew = wg := ⟨_, rfl⟩
          have HCg : Hid (Blk wg wr.heap.size 101 (colRow xs rate k).toArray) := Lib.hid (by have h9 := ((HCf.out.set_ 1 (.int .i64 (nC xs rate k))).set_ 3 (.int .i64 (mC xs rate k))).drew; rw [hwg] at h9; exact h9)
          have HSg := Lib.hid (((HSf.out.far (p := ⟨wr.heap.size, 1, none⟩) (by show w1.heap.size + 1 ≠ wr.heap.size; omega) (.int .i64 (nC xs rate k))).far (p := ⟨wr.heap.size, 3, none⟩) (by show w1.heap.size + 1 ≠ wr.heap.size; omega) (.int .i64 (mC xs rate k))).drew); rw [hwg] at HSg
          have HOg := Lib.hid (((HOf.out.far (p := ⟨wr.heap.size, 1, none⟩) (by show w1.heap.size ≠ wr.heap.size; omega) (.int .i64 (nC xs rate k))).far (p := ⟨wr.heap.size, 3, none⟩) (by show w1.heap.size ≠ wr.heap.size; omega) (.int .i64 (mC xs rate k))).drew); rw [hwg] at HOg
          have hbg := ((hbf.setCell (p := ⟨wr.heap.size, 1, none⟩) (by show w1.heap.size ≤ wr.heap.size; omega) (.int .i64 (nC xs rate k))).setCell (p := ⟨wr.heap.size, 3, none⟩) (by show w1.heap.size ≤ wr.heap.size; omega) (.int .i64 (mC xs rate k))).drew; rw [hwg] at hbg
          rw [hwg]
          clear hwg s1 s3 e1 e3 fz1 fz3
          have hcC := Lib.hid (Blk.agg (cs := colRow xs rate k) HCg.out 0 (colRow xs rate k) rfl)
          have hfit : k * 4 + (colRow xs rate k).length ≤ cs.size := by rw [Hcs.out]; show k * 4 + 4 ≤ top * 4; omega
          have hsg := hbg.size
          have H1c : Hid (∀ v ∈ colRow xs rate k, v.oneCell' = true) := Lib.hid (by simp [Value.oneCell'])
          go_wp2_with (first | (refine wpList_load_agg rfl 101 _ rfl ⟨wr.heap.size, 0, none⟩ rfl (colRow xs rate k) hcC.out _ Tryz.underlying101 rfl Columns.size ?_) | (refine wpList_store_agg rfl 101 _ _ rfl w1.heap.size (k * 4) (colRow xs rate k) rfl rfl 101 cs HOg.out Columns.size hfit H1c.out ?_))
          intro w9 hcs9 hg9 hs9
          have HO9 := Lib.hid hcs9; clear hcs9
          have HS9 := Lib.hid (HSg.out.grown hg9 (by intro e; injection e with e; omega))
          have hb9 : Below w1.heap.size w1 w9 := hbg.trans (below_grown hg9 (by omega))
          clear hg9 hs9
          go_wp2
          go_roundw
          case rel => exact ⟨k, by omega, by go_num, ⟨_, HO9.out, by rw [putAt_size hfit]; exact Hcs.out, FromUp.step HUp.out Hcs.out hkt⟩, HS9.out, hb9⟩
          case measure => simp [intOf] <;> omega
        have hk119i : ¬ (k : Int) + 1 ≤ 120 := by omega
        have hc0 : cC xs rate k = 0 := cC_zero HTab.out k (by have := HTab.out.len1; omega)
        have HCx : Hid (Blk wa wr.heap.size 101 #[.int .i64 (dC xs rate k), .int .i64 0, .int .i64 (cC xs rate k), .int .i64 0]) := Lib.hid (by rw [hc0]; exact HCa.out)
        clear HCa hc0
        have HCa := HCx
        clear HCx
        go_upto_region 12 with (fail)
        have s1 : wa.cell? ⟨w1.heap.size + 1, 1, none⟩ = some (.int .i64 (nC xs rate (k + 1))) := HSa.out.cell 1
        have c0 : wa.cell? ⟨wr.heap.size, 0, none⟩ = some (.int .i64 (dC xs rate k)) := HCa.out.cell 0
        have sf : wa.frozen? ⟨w1.heap.size + 1, 1, none⟩ = false := HSa.out.frozen 1
        obtain ⟨n1, n2⟩ := HNb.out (k + 1)
        obtain ⟨n3, n4⟩ := HD.out (k + 1)
        have hns : nC xs rate (k + 1) + dC xs rate k = nC xs rate k := by rw [nC_step HTab.out k]; omega
        go_upto_region 13 with (fail)
        have HNS := Lib.hid hns; clear hns
        obtain ⟨we, hwe⟩ : ∃ we, wa.setCell ⟨(w1.heap.size + 1), 1, none⟩ (.int .i64 (nC xs rate k)) = we := ⟨_, rfl⟩
        have HCe := Lib.hid (HCa.out.far (p := ⟨(w1.heap.size + 1), 1, none⟩) (by show wr.heap.size ≠ (w1.heap.size + 1); omega) (.int .i64 (nC xs rate k))); rw [hwe] at HCe
        have HBe := Lib.hid (HBa.out.far (p := ⟨(w1.heap.size + 1), 1, none⟩) (by show w.heap.size ≠ (w1.heap.size + 1); omega) (.int .i64 (nC xs rate k))); rw [hwe] at HBe
        have HSe : Hid (Blk we (w1.heap.size + 1) 101 #[.int .i64 0, .int .i64 (nC xs rate k), .int .i64 0, .int .i64 (mC xs rate (k + 1))]) := Lib.hid (by have h9 := HSa.out.set_ 1 (.int .i64 (nC xs rate k)); rw [hwe] at h9; exact h9)
        have HOe := Lib.hid (HOa.out.far (p := ⟨(w1.heap.size + 1), 1, none⟩) (by show w1.heap.size ≠ (w1.heap.size + 1); omega) (.int .i64 (nC xs rate k))); rw [hwe] at HOe
        have hbe := hba.setCell (p := ⟨(w1.heap.size + 1), 1, none⟩) (by show w1.heap.size ≤ (w1.heap.size + 1); omega) (.int .i64 (nC xs rate k)); rw [hwe] at hbe
        have HTe := Lib.hid (HT1.out.past hbe)
        have HDe := Lib.hid (HDR.out.past hbe)
        rw [hwe]
        clear hwe
        clear s1 c0 sf
        have s3 : we.cell? ⟨w1.heap.size + 1, 3, none⟩ = some (.int .i64 (mC xs rate (k + 1))) := HSe.out.cell 3
        have c2 : we.cell? ⟨wr.heap.size, 2, none⟩ = some (.int .i64 (cC xs rate k)) := HCe.out.cell 2
        have sf : we.frozen? ⟨w1.heap.size + 1, 3, none⟩ = false := HSe.out.frozen 3
        obtain ⟨m1, m2⟩ := HMb.out (k + 1)
        obtain ⟨m3, m4⟩ := HCb.out k
        have hms : mC xs rate (k + 1) + cC xs rate k = mC xs rate k := by rw [mC_step HTab.out k]; omega
        go_upto_region 14 with (fail)
        have HMS := Lib.hid hms; clear hms
        obtain ⟨wf, hwf⟩ : ∃ wf, we.setCell ⟨(w1.heap.size + 1), 3, none⟩ (.int .i64 (mC xs rate k)) = wf := ⟨_, rfl⟩
        have HCf := Lib.hid (HCe.out.far (p := ⟨(w1.heap.size + 1), 3, none⟩) (by show wr.heap.size ≠ (w1.heap.size + 1); omega) (.int .i64 (mC xs rate k))); rw [hwf] at HCf
        have HBf := Lib.hid (HBe.out.far (p := ⟨(w1.heap.size + 1), 3, none⟩) (by show w.heap.size ≠ (w1.heap.size + 1); omega) (.int .i64 (mC xs rate k))); rw [hwf] at HBf
        have HSf : Hid (Blk wf (w1.heap.size + 1) 101 #[.int .i64 0, .int .i64 (nC xs rate k), .int .i64 0, .int .i64 (mC xs rate k)]) := Lib.hid (by have h9 := HSe.out.set_ 3 (.int .i64 (mC xs rate k)); rw [hwf] at h9; exact h9)
        have HOf := Lib.hid (HOe.out.far (p := ⟨(w1.heap.size + 1), 3, none⟩) (by show w1.heap.size ≠ (w1.heap.size + 1); omega) (.int .i64 (mC xs rate k))); rw [hwf] at HOf
        have hbf := hbe.setCell (p := ⟨(w1.heap.size + 1), 3, none⟩) (by show w1.heap.size ≤ (w1.heap.size + 1); omega) (.int .i64 (mC xs rate k)); rw [hwf] at hbf
        have HTf := Lib.hid (HT1.out.past hbf)
        have HDf := Lib.hid (HDR.out.past hbf)
        rw [hwf]
        clear hwf
        clear s3 c2 sf
        have s1 : wf.cell? ⟨w1.heap.size + 1, 1, none⟩ = some (.int .i64 (nC xs rate k)) := HSf.out.cell 1
        have s3 : wf.cell? ⟨w1.heap.size + 1, 3, none⟩ = some (.int .i64 (mC xs rate k)) := HSf.out.cell 3
        have e1 : wf.cell? ⟨wr.heap.size, 1, none⟩ = some (.int .i64 0) := HCf.out.cell 1
        have e3 : wf.cell? ⟨wr.heap.size, 3, none⟩ = some (.int .i64 0) := HCf.out.cell 3
        have fz1 : wf.frozen? ⟨wr.heap.size, 1, none⟩ = false := HCf.out.frozen 1
        have fz3 : wf.frozen? ⟨wr.heap.size, 3, none⟩ = false := HCf.out.frozen 3
        have hne : ¬ w1.heap.size + 1 = wr.heap.size := by omega
        have hne2 : ¬ wr.heap.size = w1.heap.size + 1 := by omega
        go_region
        obtain ⟨wg, hwg⟩ : ∃ wg, ((wf.setCell ⟨wr.heap.size, 1, none⟩ (.int .i64 (nC xs rate k))).setCell ⟨wr.heap.size, 3, none⟩ (.int .i64 (mC xs rate k))).drew = wg := ⟨_, rfl⟩
        have HCg : Hid (Blk wg wr.heap.size 101 (colRow xs rate k).toArray) := Lib.hid (by have h9 := ((HCf.out.set_ 1 (.int .i64 (nC xs rate k))).set_ 3 (.int .i64 (mC xs rate k))).drew; rw [hwg] at h9; exact h9)
        have HSg := Lib.hid (((HSf.out.far (p := ⟨wr.heap.size, 1, none⟩) (by show w1.heap.size + 1 ≠ wr.heap.size; omega) (.int .i64 (nC xs rate k))).far (p := ⟨wr.heap.size, 3, none⟩) (by show w1.heap.size + 1 ≠ wr.heap.size; omega) (.int .i64 (mC xs rate k))).drew); rw [hwg] at HSg
        have HOg := Lib.hid (((HOf.out.far (p := ⟨wr.heap.size, 1, none⟩) (by show w1.heap.size ≠ wr.heap.size; omega) (.int .i64 (nC xs rate k))).far (p := ⟨wr.heap.size, 3, none⟩) (by show w1.heap.size ≠ wr.heap.size; omega) (.int .i64 (mC xs rate k))).drew); rw [hwg] at HOg
        have hbg := ((hbf.setCell (p := ⟨wr.heap.size, 1, none⟩) (by show w1.heap.size ≤ wr.heap.size; omega) (.int .i64 (nC xs rate k))).setCell (p := ⟨wr.heap.size, 3, none⟩) (by show w1.heap.size ≤ wr.heap.size; omega) (.int .i64 (mC xs rate k))).drew; rw [hwg] at hbg
        rw [hwg]
        clear hwg s1 s3 e1 e3 fz1 fz3
        have hcC := Lib.hid (Blk.agg (cs := colRow xs rate k) HCg.out 0 (colRow xs rate k) rfl)
        have hfit : k * 4 + (colRow xs rate k).length ≤ cs.size := by rw [Hcs.out]; show k * 4 + 4 ≤ top * 4; omega
        have hsg := hbg.size
        have H1c : Hid (∀ v ∈ colRow xs rate k, v.oneCell' = true) := Lib.hid (by simp [Value.oneCell'])
        go_wp2_with (first | (refine wpList_load_agg rfl 101 _ rfl ⟨wr.heap.size, 0, none⟩ rfl (colRow xs rate k) hcC.out _ Tryz.underlying101 rfl Columns.size ?_) | (refine wpList_store_agg rfl 101 _ _ rfl w1.heap.size (k * 4) (colRow xs rate k) rfl rfl 101 cs HOg.out Columns.size hfit H1c.out ?_))
        intro w9 hcs9 hg9 hs9
        have HO9 := Lib.hid hcs9; clear hcs9
        have HS9 := Lib.hid (HSg.out.grown hg9 (by intro e; injection e with e; omega))
        have hb9 : Below w1.heap.size w1 w9 := hbg.trans (below_grown hg9 (by omega))
        clear hg9 hs9
        go_wp2
        go_roundw
        case rel => exact ⟨k, by omega, by go_num, ⟨_, HO9.out, by rw [putAt_size hfit]; exact Hcs.out, FromUp.step HUp.out Hcs.out hkt⟩, HS9.out, hb9⟩
        case measure => simp [intOf] <;> omega
      have hk120i : ¬ (k : Int) ≤ 120 := by omega
      have hk119i : ¬ (k : Int) + 1 ≤ 120 := by omega
      have hd0 : dC xs rate k = 0 := dC_zero HTab.out k (by have := HTab.out.len1; omega)
      have hc0 : cC xs rate k = 0 := cC_zero HTab.out k (by have := HTab.out.len1; omega)
      have HCx : Hid (Blk wR wr.heap.size 101 #[.int .i64 (dC xs rate k), .int .i64 0, .int .i64 (cC xs rate k), .int .i64 0]) := Lib.hid (by rw [hc0, hd0]; exact HCr.out)
      clear HCr hc0 hd0
      have HCr := HCx
      clear HCx
      go_upto_region 12 with (fail)
      rw [HWR.out]
      have s1 : wR.cell? ⟨w1.heap.size + 1, 1, none⟩ = some (.int .i64 (nC xs rate (k + 1))) := HSr.out.cell 1
      have c0 : wR.cell? ⟨wr.heap.size, 0, none⟩ = some (.int .i64 (dC xs rate k)) := HCr.out.cell 0
      have sf : wR.frozen? ⟨w1.heap.size + 1, 1, none⟩ = false := HSr.out.frozen 1
      obtain ⟨n1, n2⟩ := HNb.out (k + 1)
      obtain ⟨n3, n4⟩ := HD.out (k + 1)
      have hns : nC xs rate (k + 1) + dC xs rate k = nC xs rate k := by rw [nC_step HTab.out k]; omega
      go_upto_region 13 with (fail)
      have HNS := Lib.hid hns; clear hns
      obtain ⟨we, hwe⟩ : ∃ we, wR.setCell ⟨(w1.heap.size + 1), 1, none⟩ (.int .i64 (nC xs rate k)) = we := ⟨_, rfl⟩
      have HCe := Lib.hid (HCr.out.far (p := ⟨(w1.heap.size + 1), 1, none⟩) (by show wr.heap.size ≠ (w1.heap.size + 1); omega) (.int .i64 (nC xs rate k))); rw [hwe] at HCe
      have HBe := Lib.hid (HBr.out.far (p := ⟨(w1.heap.size + 1), 1, none⟩) (by show w.heap.size ≠ (w1.heap.size + 1); omega) (.int .i64 (nC xs rate k))); rw [hwe] at HBe
      have HSe : Hid (Blk we (w1.heap.size + 1) 101 #[.int .i64 0, .int .i64 (nC xs rate k), .int .i64 0, .int .i64 (mC xs rate (k + 1))]) := Lib.hid (by have h9 := HSr.out.set_ 1 (.int .i64 (nC xs rate k)); rw [hwe] at h9; exact h9)
      have HOe := Lib.hid (HOr.out.far (p := ⟨(w1.heap.size + 1), 1, none⟩) (by show w1.heap.size ≠ (w1.heap.size + 1); omega) (.int .i64 (nC xs rate k))); rw [hwe] at HOe
      have hbe := hbr.setCell (p := ⟨(w1.heap.size + 1), 1, none⟩) (by show w1.heap.size ≤ (w1.heap.size + 1); omega) (.int .i64 (nC xs rate k)); rw [hwe] at hbe
      have HTe := Lib.hid (HT1.out.past hbe)
      have HDe := Lib.hid (HDR.out.past hbe)
      rw [hwe]
      clear hwe
      clear s1 c0 sf
      have s3 : we.cell? ⟨w1.heap.size + 1, 3, none⟩ = some (.int .i64 (mC xs rate (k + 1))) := HSe.out.cell 3
      have c2 : we.cell? ⟨wr.heap.size, 2, none⟩ = some (.int .i64 (cC xs rate k)) := HCe.out.cell 2
      have sf : we.frozen? ⟨w1.heap.size + 1, 3, none⟩ = false := HSe.out.frozen 3
      obtain ⟨m1, m2⟩ := HMb.out (k + 1)
      obtain ⟨m3, m4⟩ := HCb.out k
      have hms : mC xs rate (k + 1) + cC xs rate k = mC xs rate k := by rw [mC_step HTab.out k]; omega
      go_upto_region 14 with (fail)
      have HMS := Lib.hid hms; clear hms
      obtain ⟨wf, hwf⟩ : ∃ wf, we.setCell ⟨(w1.heap.size + 1), 3, none⟩ (.int .i64 (mC xs rate k)) = wf := ⟨_, rfl⟩
      have HCf := Lib.hid (HCe.out.far (p := ⟨(w1.heap.size + 1), 3, none⟩) (by show wr.heap.size ≠ (w1.heap.size + 1); omega) (.int .i64 (mC xs rate k))); rw [hwf] at HCf
      have HBf := Lib.hid (HBe.out.far (p := ⟨(w1.heap.size + 1), 3, none⟩) (by show w.heap.size ≠ (w1.heap.size + 1); omega) (.int .i64 (mC xs rate k))); rw [hwf] at HBf
      have HSf : Hid (Blk wf (w1.heap.size + 1) 101 #[.int .i64 0, .int .i64 (nC xs rate k), .int .i64 0, .int .i64 (mC xs rate k)]) := Lib.hid (by have h9 := HSe.out.set_ 3 (.int .i64 (mC xs rate k)); rw [hwf] at h9; exact h9)
      have HOf := Lib.hid (HOe.out.far (p := ⟨(w1.heap.size + 1), 3, none⟩) (by show w1.heap.size ≠ (w1.heap.size + 1); omega) (.int .i64 (mC xs rate k))); rw [hwf] at HOf
      have hbf := hbe.setCell (p := ⟨(w1.heap.size + 1), 3, none⟩) (by show w1.heap.size ≤ (w1.heap.size + 1); omega) (.int .i64 (mC xs rate k)); rw [hwf] at hbf
      have HTf := Lib.hid (HT1.out.past hbf)
      have HDf := Lib.hid (HDR.out.past hbf)
      rw [hwf]
      clear hwf
      clear s3 c2 sf
      have s1 : wf.cell? ⟨w1.heap.size + 1, 1, none⟩ = some (.int .i64 (nC xs rate k)) := HSf.out.cell 1
      have s3 : wf.cell? ⟨w1.heap.size + 1, 3, none⟩ = some (.int .i64 (mC xs rate k)) := HSf.out.cell 3
      have e1 : wf.cell? ⟨wr.heap.size, 1, none⟩ = some (.int .i64 0) := HCf.out.cell 1
      have e3 : wf.cell? ⟨wr.heap.size, 3, none⟩ = some (.int .i64 0) := HCf.out.cell 3
      have fz1 : wf.frozen? ⟨wr.heap.size, 1, none⟩ = false := HCf.out.frozen 1
      have fz3 : wf.frozen? ⟨wr.heap.size, 3, none⟩ = false := HCf.out.frozen 3
      have hne : ¬ w1.heap.size + 1 = wr.heap.size := by omega
      have hne2 : ¬ wr.heap.size = w1.heap.size + 1 := by omega
      go_region
      obtain ⟨wg, hwg⟩ : ∃ wg, ((wf.setCell ⟨wr.heap.size, 1, none⟩ (.int .i64 (nC xs rate k))).setCell ⟨wr.heap.size, 3, none⟩ (.int .i64 (mC xs rate k))).drew = wg := ⟨_, rfl⟩
      have HCg : Hid (Blk wg wr.heap.size 101 (colRow xs rate k).toArray) := Lib.hid (by have h9 := ((HCf.out.set_ 1 (.int .i64 (nC xs rate k))).set_ 3 (.int .i64 (mC xs rate k))).drew; rw [hwg] at h9; exact h9)
      have HSg := Lib.hid (((HSf.out.far (p := ⟨wr.heap.size, 1, none⟩) (by show w1.heap.size + 1 ≠ wr.heap.size; omega) (.int .i64 (nC xs rate k))).far (p := ⟨wr.heap.size, 3, none⟩) (by show w1.heap.size + 1 ≠ wr.heap.size; omega) (.int .i64 (mC xs rate k))).drew); rw [hwg] at HSg
      have HOg := Lib.hid (((HOf.out.far (p := ⟨wr.heap.size, 1, none⟩) (by show w1.heap.size ≠ wr.heap.size; omega) (.int .i64 (nC xs rate k))).far (p := ⟨wr.heap.size, 3, none⟩) (by show w1.heap.size ≠ wr.heap.size; omega) (.int .i64 (mC xs rate k))).drew); rw [hwg] at HOg
      have hbg := ((hbf.setCell (p := ⟨wr.heap.size, 1, none⟩) (by show w1.heap.size ≤ wr.heap.size; omega) (.int .i64 (nC xs rate k))).setCell (p := ⟨wr.heap.size, 3, none⟩) (by show w1.heap.size ≤ wr.heap.size; omega) (.int .i64 (mC xs rate k))).drew; rw [hwg] at hbg
      rw [hwg]
      clear hwg s1 s3 e1 e3 fz1 fz3
      have hcC := Lib.hid (Blk.agg (cs := colRow xs rate k) HCg.out 0 (colRow xs rate k) rfl)
      have hfit : k * 4 + (colRow xs rate k).length ≤ cs.size := by rw [Hcs.out]; show k * 4 + 4 ≤ top * 4; omega
      have hsg := hbg.size
      have H1c : Hid (∀ v ∈ colRow xs rate k, v.oneCell' = true) := Lib.hid (by simp [Value.oneCell'])
      go_wp2_with (first | (refine wpList_load_agg rfl 101 _ rfl ⟨wr.heap.size, 0, none⟩ rfl (colRow xs rate k) hcC.out _ Tryz.underlying101 rfl Columns.size ?_) | (refine wpList_store_agg rfl 101 _ _ rfl w1.heap.size (k * 4) (colRow xs rate k) rfl rfl 101 cs HOg.out Columns.size hfit H1c.out ?_))
      intro w9 hcs9 hg9 hs9
      have HO9 := Lib.hid hcs9; clear hcs9
      have HS9 := Lib.hid (HSg.out.grown hg9 (by intro e; injection e with e; omega))
      have hb9 : Below w1.heap.size w1 w9 := hbg.trans (below_grown hg9 (by omega))
      clear hg9 hs9
      go_wp2
      go_roundw
      case rel => exact ⟨k, by omega, by go_num, ⟨_, HO9.out, by rw [putAt_size hfit]; exact Hcs.out, FromUp.step HUp.out Hcs.out hkt⟩, HS9.out, hb9⟩
      case measure => simp [intOf] <;> omega
end Go.Proofs.YtkdfdbcpbgganaaGreatDoor
end

/- Policies: whether they are valid, premiums, durations: the reference's contracts. -/
section
namespace Go.Proofs.YtkdfdbcpbgganaaGreatDoor
open Go.RowKit Go.BigFrame

def fitsB (kind yrs : Int) : Bool := inR kind 0 3 && ((kind == 0) == (yrs == 0))
theorem fitsB_true {kind yrs : Int} : fitsB kind yrs = true ↔ (0 ≤ kind ∧ kind ≤ 3) ∧ (kind = 0 ↔ yrs = 0) := by
  simp only [fitsB, Bool.and_eq_true, inR_true, beq_iff_eq]
  constructor
  · rintro ⟨h1, h2⟩
    refine ⟨h1, ?_⟩
    have : ((kind == 0) = true ↔ (yrs == 0) = true) := by rw [h2]
    simpa using this
  · rintro ⟨h1, h2⟩
    refine ⟨h1, ?_⟩
    by_cases h : kind = 0
    · have := h2.1 h; simp [h, this]
    · have h3 : ¬ yrs = 0 := fun e => h (h2.2 e)
      have e1 : (kind == 0) = false := by simp [h]
      have e2 : (yrs == 0) = false := by simp [h3]
      rw [e1, e2]
theorem inR_bool (n lo hi : Int) (h : ¬ inR n lo hi = true) : inR n lo hi = false := by simpa using h

set_option maxHeartbeats 2000000 in
theorem spec_l07Code_any (first : Int) (A : Option Addr) (n cap : Nat) (xs : List Int) (rate kind age yrs : Int) (b : Bool) (w : World) (hT : LiesT w A n xs) (hcap : n ≤ cap) (hf : In64 first) :
    Calls Tryz.prog 93 #[.agg #[.int .i64 first, .slice A n cap], .int .i64 rate, .int .i64 kind, .int .i64 age, .int .i64 yrs, .bool b] w fun e w' => e = .returned (.int .i64 (code6 first xs rate age (b && fitsB kind yrs) yrs)) ∧ Below w.heap.size w w' := by
  have hbw : Below w.heap.size w (w.alloc (.cells #[.int .i64 first, .slice A n cap] 26)) := (Below.refl _ w).alloc (Nat.le_refl _) _
  have HT := Lib.hid (hT.past hbw); clear hT
  cases h1 : inR kind 0 3
  · have e : fitsB kind yrs = false := by simp [fitsB, h1]
    rw [e]
    cases b
    all_goals
      go_enter Tryz.func93, Tryz.ntmps93
      go_wp2_with (first | (go_at_call 72; refine (spec_l01In_any _ _ _ _).mono ?_; rintro e w' ⟨rfl, rfl⟩))
      refine (spec_l06Code_any first A n cap xs rate age _ yrs _ HT.out hcap hf).mono ?_
      rintro e w1 ⟨rfl, hb1⟩
      go_wp2
      go_ret
      exact ⟨by simp, hbw.trans (hb1.mono (by simp))⟩
  · have e : fitsB kind yrs = ((kind == 0) == (yrs == 0)) := by simp [fitsB, h1]
    rw [e]
    cases b
    · go_enter Tryz.func93, Tryz.ntmps93
      go_wp2_with (first | (go_at_call 72; refine (spec_l01In_any _ _ _ _).mono ?_; rintro e w' ⟨rfl, rfl⟩))
      all_goals (refine (spec_l06Code_any first A n cap xs rate age _ yrs _ HT.out hcap hf).mono ?_; rintro e w1 ⟨rfl, hb1⟩; go_wp2; go_ret; exact ⟨by simp, hbw.trans (hb1.mono (by simp))⟩)
    · obtain ⟨q, hq⟩ : ∃ q, ((kind == 0) == (yrs == 0)) = q := ⟨_, rfl⟩
      rw [hq]
      go_enter Tryz.func93, Tryz.ntmps93
      go_wp2_with (first | (go_at_call 72; refine (spec_l01In_any _ _ _ _).mono ?_; rintro e w' ⟨rfl, rfl⟩))
      refine (spec_l06Code_any first A n cap xs rate age _ yrs _ HT.out hcap hf).mono ?_
      rintro e w1 ⟨rfl, hb1⟩
      go_wp2
      go_ret
      exact ⟨by simp, hbw.trans (hb1.mono (by simp))⟩

/-- a basis lies in memory -/
structure BasT (w : World) (A : Option Addr) (n cap : Nat) (b : Bas) : Prop where
  lives : LiesT w A n b.lives
  cap : n ≤ cap
  first : In64 b.first
  rate : In64 b.rate
theorem BasT.past {w w' : World} {A : Option Addr} {n cap : Nat} {b : Bas} (h : BasT w A n cap b) (hb : Below w.heap.size w w') : BasT w' A n cap b := ⟨h.lives.past hb, h.cap, h.first, h.rate⟩
theorem BasT.at_past {w : World} {A : Option Addr} {n cap : Nat} {b : Bas} (h : BasT w A n cap b) (x : Past w) : BasT x.1 A n cap b := h.past x.2
abbrev Bas.row (b : Bas) (A : Option Addr) (n cap : Nat) : List Value := [.int .i64 b.first, .slice A n cap, .int .i64 b.rate]

theorem spec_IsBasis_any (b : Bas) (A : Option Addr) (n cap : Nat) (w : World) (hB : BasT w A n cap b) :
    Calls Tryz.prog 87 #[.agg #[.int .i64 b.first, .slice A n cap, .int .i64 b.rate]] w fun e w' => e = .returned (.bool (basisB b)) ∧ Below w.heap.size w w' := by
  have hbw : Below w.heap.size w (w.alloc (.cells #[.int .i64 b.first, .slice A n cap, .int .i64 b.rate] 40)) := (Below.refl _ w).alloc (Nat.le_refl _) _
  have HB := Lib.hid (Blk.new w 40 #[.int .i64 b.first, .slice A n cap, .int .i64 b.rate])
  have HBT := Lib.hid (hB.past hbw); clear hB
  cases h1 : tableB b.first b.lives
  · have Q := Lib.hid (show basisB b = false by simp [basisB, h1])
    go_enter Tryz.func87, Tryz.ntmps87
    go_wp2_with fail
    refine (spec_IsLifeTable_any b.first A n cap b.lives _ HBT.out.lives HBT.out.cap HBT.out.first).mono ?_
    rw [h1]
    rintro e w1 ⟨rfl, hb1⟩
    go_wp2
    go_ret
    exact ⟨by rw [Q.out]; rfl, hbw.trans (hb1.mono (by simp))⟩
  · have Q := Lib.hid (show basisB b = inR b.rate 0 200 by simp [basisB, h1])
    go_enter Tryz.func87, Tryz.ntmps87
    go_wp2_with fail
    refine (spec_IsLifeTable_any b.first A n cap b.lives _ HBT.out.lives HBT.out.cap HBT.out.first).mono ?_
    rw [h1]
    rintro e w1 ⟨rfl, hb1⟩
    have c2 : w1.cell? ⟨w.heap.size, 2, none⟩ = some (.int .i64 b.rate) := (HB.out.below' hb1).cell 2
    go_wp2_with (first | (go_at_call 117; refine (spec_l04Rate_any _ _).mono ?_; rintro e w' ⟨rfl, rfl⟩))
    go_ret
    exact ⟨by rw [Q.out]; rfl, hbw.trans (hb1.mono (by simp))⟩

def polCode (b : Bas) (p : Policy) : Int := code6 b.first b.lives b.rate p.age (inR p.sum 1 100000000 && fitsB p.kind p.years) p.years
theorem polCode_of {b : Bas} {p : Policy} (h : polB b p = true) : polCode b p = 0 := by
  have P := pol_ok h
  have h1 : basisB b = true := by simp only [polB, Bool.and_eq_true] at h; exact h.1
  simp only [basisB, Bool.and_eq_true] at h1
  have h2 : code5 b.first b.lives b.rate p.age = 0 := by unfold code5; rw [if_pos h1.1, if_pos ⟨h1.2, inR_mk ⟨P.age0, P.age1⟩⟩]
  have h3 : fitsB p.kind p.years = true := fitsB_true.2 ⟨⟨P.kind0, P.kind1⟩, P.zero.symm⟩
  have h4 : ¬ dC b.lives b.rate (p.age - b.first).toNat = 0 := by have := d_age P; unfold Bas.d Bas.ix at this; omega
  unfold polCode code6
  rw [if_pos h2, if_pos ⟨by rw [h3, inR_mk ⟨P.sum0, P.sum1⟩]; rfl, inR_mk ⟨P.yrs0, P.yrs1⟩, P.end1⟩, if_neg h4]
theorem pol_of {b : Bas} {p : Policy} (h1 : basisB b = true) (h2 : inR p.load 0 1000 = true) (h3 : polCode b p = 0) (h4 : ∀ i : Nat, (i : Int) < p.years → b.d (p.age + i) ≠ 0) : polB b p = true := by
  unfold polCode at h3
  have h5 : code5 b.first b.lives b.rate p.age = 0 := by
    unfold code6 at h3
    by_cases e : code5 b.first b.lives b.rate p.age = 0
    · exact e
    · rw [if_neg e] at h3; exact absurd h3 e
  obtain ⟨_, ⟨r1, r2⟩, a1, a2⟩ := code5_ok h5
  unfold code6 at h3
  rw [if_pos h5] at h3
  by_cases e : ((inR p.sum 1 100000000 && fitsB p.kind p.years) = true ∧ inR p.years 0 120 = true ∧ p.age + p.years ≤ 150)
  · rw [if_pos e] at h3
    by_cases e2 : dC b.lives b.rate (p.age - b.first).toNat = 0
    · rw [if_pos e2] at h3; omega
    · obtain ⟨e3, e4, e5⟩ := e
      simp only [Bool.and_eq_true] at e3
      obtain ⟨k1, k2⟩ := fitsB_true.1 e3.2
      have e6 : assurB b p.kind p.age p.years p.sum = true := by
        simp only [assurB, Bool.and_eq_true, decide_eq_true_eq, beq_iff_eq, decide_eq_decide]
        exact ⟨inR_mk k1, inR_mk ⟨r1, r2⟩, inR_mk ⟨a1, a2⟩, e3.1, e4, e5, k2.symm⟩
      have e7 : bandB b p.age p.years = true := by
        simp only [bandB, List.all_eq_true, List.mem_range, decide_eq_true_eq]
        intro i hi
        by_cases hi0 : i = 0
        · subst hi0
          simp only [Int.natCast_zero, Int.add_zero]
          exact e2
        · exact h4 i (by omega)
      simp only [polB, h1, h2, e6, e7, Bool.and_self]
  · rw [if_neg e] at h3; omega
theorem polCode_ok {b : Bas} {p : Policy} (h3 : polCode b p = 0) : BasOk b ∧ b.first ≤ p.age ∧ p.age ≤ 150 ∧ 0 ≤ p.years ∧ p.years ≤ 120 := by
  unfold polCode at h3
  have h5 : code5 b.first b.lives b.rate p.age = 0 := by
    unfold code6 at h3
    by_cases e : code5 b.first b.lives b.rate p.age = 0
    · exact e
    · rw [if_neg e] at h3; exact absurd h3 e
  obtain ⟨T, ⟨r1, r2⟩, a1, a2⟩ := code5_ok h5
  unfold code6 at h3
  rw [if_pos h5] at h3
  by_cases e : ((inR p.sum 1 100000000 && fitsB p.kind p.years) = true ∧ inR p.years 0 120 = true ∧ p.age + p.years ≤ 150)
  · have := inR_true.1 e.2.1
    exact ⟨⟨T, r1, r2⟩, a1, a2, this.1, this.2⟩
  · rw [if_neg e] at h3; omega

theorem boxes_below {w : World} {X Y : List Value} {tx ty : TypeId} : Below w.heap.size w ((w.alloc (.cells X.toArray tx)).alloc (.cells Y.toArray ty)) := ((Below.refl _ w).alloc (Nat.le_refl _) _).alloc (by simp) _

set_option maxHeartbeats 4000000 in
theorem spec_IsPolicy_any (b : Bas) (A : Option Addr) (n cap : Nat) (p : Policy) (w : World) (hB : BasT w A n cap b) (_hp : p.fits) :
    Calls Tryz.prog 56 #[.agg #[.int .i64 b.first, .slice A n cap, .int .i64 b.rate], .agg p.row.toArray] w fun e w' => e = .returned (.bool (polB b p)) ∧ Below w.heap.size w w' := by
  have hbw := boxes_below (w := w) (X := b.row A n cap) (Y := p.row) (tx := 40) (ty := 42)
  have HB := Lib.hid ((Blk.new w 40 (b.row A n cap).toArray).alloc (.cells p.row.toArray 42))
  have HP := Lib.hid (Blk.new (w.alloc (.cells (b.row A n cap).toArray 40)) 42 p.row.toArray)
  rw [World.size_alloc] at HP
  unfold Bas.row Policy.row at *
  have HBT := Lib.hid (hB.past hbw); clear hB
  cases h1 : basisB b
  · have Q := Lib.hid (show polB b p = false by simp [polB, h1])
    go_enter Tryz.func56, Tryz.ntmps56
    go_wp2_with fail
    refine (spec_IsBasis_any b A n cap _ HBT.out).mono ?_
    rw [h1]
    rintro e w1 ⟨rfl, hb1⟩
    go_wp2
    go_ret
    exact ⟨by rw [Q.out]; rfl, hbw.trans (hb1.mono hbw.size)⟩
  cases h2 : inR p.load 0 1000
  · have Q := Lib.hid (show polB b p = false by simp [polB, h1, h2])
    go_enter Tryz.func56, Tryz.ntmps56
    go_wp2_with fail
    refine (spec_IsBasis_any b A n cap _ HBT.out).mono ?_
    rw [h1]
    rintro e w1 ⟨rfl, hb1⟩
    have c4 : w1.cell? ⟨w.heap.size + 1, 4, none⟩ = some (.int .i64 p.load) := (HP.out.below' hb1).cell 4
    go_wp2_with (first | (go_at_call 72; refine (spec_l01In_any _ _ _ _).mono ?_; rintro e w' ⟨rfl, rfl⟩))
    go_ret
    exact ⟨by rw [Q.out]; rfl, hbw.trans (hb1.mono hbw.size)⟩
  have H2 := Lib.hid h2
  go_enter Tryz.func56, Tryz.ntmps56
  go_wp2_with fail
  refine (spec_IsBasis_any b A n cap _ HBT.out).mono ?_
  rw [h1]
  rintro e w1 ⟨rfl, hb1⟩
  have HB1 := Lib.hid (HB.out.below' hb1)
  have HP1 := Lib.hid (HP.out.below' hb1)
  have c4 : w1.cell? ⟨w.heap.size + 1, 4, none⟩ = some (.int .i64 p.load) := HP1.out.cell 4
  have HBT1 := Lib.hid (HBT.out.past hb1)
  have hbw1 := hbw.trans (hb1.mono hbw.size)
  have hc1 := Lib.hid (Blk.agg_past (cs := [.int .i64 b.first, .slice A n cap, .int .i64 b.rate]) HB1.out 0 [.int .i64 b.first, .slice A n cap] rfl)
  have d2 := fun y : Past w1 => Past.cell (p := ⟨w.heap.size, 2, none⟩) (v := .int .i64 b.rate) (HB1.out.cell 2) y
  have e0 := fun y : Past w1 => Past.cell (p := ⟨w.heap.size + 1, 0, none⟩) (v := .int .i64 p.kind) (HP1.out.cell 0) y
  have e1 := fun y : Past w1 => Past.cell (p := ⟨w.heap.size + 1, 1, none⟩) (v := .int .i64 p.age) (HP1.out.cell 1) y
  have e2 := fun y : Past w1 => Past.cell (p := ⟨w.heap.size + 1, 2, none⟩) (v := .int .i64 p.years) (HP1.out.cell 2) y
  have e3 := fun y : Past w1 => Past.cell (p := ⟨w.heap.size + 1, 3, none⟩) (v := .int .i64 p.sum) (HP1.out.cell 3) y
  have QC := Lib.hid (show code6 b.first b.lives b.rate p.age (inR p.sum 1 100000000 && fitsB p.kind p.years) p.years = polCode b p from rfl)
  by_cases h3 : polCode b p = 0
  rotate_left
  · have Q := Lib.hid (show polB b p = false by cases e : polB b p; rfl; exact absurd (polCode_of e) h3)
    have h3b : (polCode b p == 0) = false := by simp [h3]
    have h3c : (polCode b p != 0) = true := by simp [h3]
    go_wp2_with (first | (go_at_call 72; refine (spec_l01In_any _ _ _ _).mono ?_; rintro e w' ⟨rfl, rfl⟩))
    refine wp_region_past (by kernel_rfl) (by kernel_rfl) ?_
    repeat (first | (go_big_quiet_want; (first | (refine quiet_load_agg 26 _ rfl ⟨w.heap.size, 0, none⟩ rfl [.int .i64 b.first, .slice A n cap] hc1.out _ Tryz.underlying26 rfl Tab.size ?_)); go_simp; go_big_quiet_on) | go_big_quiet_step ((first | (go_at_call 57; exact past_same (spec_l07Sum_any p.sum _)) | (go_at_call 93; exact past_call ((spec_l07Code_any b.first A n cap b.lives b.rate p.kind p.age p.years _ _ (HBT1.out.lives.at_past _) HBT1.out.cap HBT1.out.first).mono (by rw [QC.out]; exact fun _ _ h => h))))))
    refine wpQuiet_nil ?_
    rintro _ ⟨y, rfl⟩
    go_wp2
    go_ret
    exact ⟨by rw [Q.out]; rfl, hbw1.trans (y.2.mono hbw1.size)⟩
  obtain ⟨OK, a1, a2, y1, y2⟩ := polCode_ok h3
  have HOK := Lib.hid OK; clear OK
  have h3' := Lib.hid h3
  have T0 := HOK.out.tab.first0
  go_wp2_with (first | (go_at_call 72; refine (spec_l01In_any _ _ _ _).mono ?_; rintro e w' ⟨rfl, rfl⟩))
  refine wp_region_past (by kernel_rfl) (by kernel_rfl) ?_
  repeat (first | (go_big_quiet_want; (first | (refine quiet_load_agg 26 _ rfl ⟨w.heap.size, 0, none⟩ rfl [.int .i64 b.first, .slice A n cap] hc1.out _ Tryz.underlying26 rfl Tab.size ?_)); go_simp; go_big_quiet_on) | go_big_quiet_step ((first | (go_at_call 57; exact past_same (spec_l07Sum_any p.sum _)) | (go_at_call 93; exact past_call ((spec_l07Code_any b.first A n cap b.lives b.rate p.kind p.age p.years _ _ (HBT1.out.lives.at_past _) HBT1.out.cap HBT1.out.first).mono (by rw [QC.out, h3'.out]; exact fun _ _ h => h))))))
  refine wpQuiet_nil ?_
  rintro _ ⟨y, rfl⟩
  have HB2 := Lib.hid (HB1.out.below' y.2)
  have HP2 := Lib.hid (HP1.out.below' y.2)
  have hbw2 := hbw1.trans (y.2.mono hbw1.size)
  have HBT2 := Lib.hid (HBT1.out.past y.2)
  obtain ⟨wy, hwy⟩ : ∃ wy, wy = y.1 := ⟨y.1, rfl⟩
  rw [← hwy] at HB2 HP2 hbw2 HBT2 ⊢
  clear hwy e0 e1 e2 e3 d2 hc1 c4
  go_wp2
  go_loopw [5] (fun i wr => ∃ k : Nat, (k : Int) ≤ p.years ∧ i = .int .i64 k ∧ Hid (∀ j : Nat, j < k → b.d (p.age + j) ≠ 0) ∧ Below wy.heap.size wy wr) (fun i _ => 121 - (intOf i).toNat)
  case atStart => exact ⟨0, by omega, rfl, Lib.hid (fun j h => by omega), Below.refl _ _⟩
  case round =>
    obtain ⟨k, hk, rfl, hall, hb⟩ := hrel
    have HB3 := Lib.hid (HB2.out.below' hb)
    have HP3 := Lib.hid (HP2.out.below' hb)
    have f1 : wr.cell? ⟨w.heap.size + 1, 1, none⟩ = some (.int .i64 p.age) := HP3.out.cell 1
    have f2 : wr.cell? ⟨w.heap.size + 1, 2, none⟩ = some (.int .i64 p.years) := HP3.out.cell 2
    have f3 : wr.cell? ⟨w.heap.size, 2, none⟩ = some (.int .i64 b.rate) := HB3.out.cell 2
    have hc3 := Lib.hid (Blk.agg (cs := [.int .i64 b.first, .slice A n cap, .int .i64 b.rate]) HB3.out 0 [.int .i64 b.first, .slice A n cap] rfl)
    by_cases hlt : (k : Int) < p.years
    · have HBT3 := Lib.hid (HBT2.out.past hb)
      go_wp2_with (refine wpList_load_agg rfl 26 _ rfl ⟨w.heap.size, 0, none⟩ rfl [.int .i64 b.first, .slice A n cap] hc3.out _ Tryz.underlying26 rfl Tab.size ?_)
      refine (spec_l05D_any b.first A n cap b.lives b.rate (p.age + (k : Int)) _ HBT3.out.lives HOK.out.tab ⟨HOK.out.rate0, HOK.out.rate1⟩ ⟨by omega, by omega⟩).mono ?_
      rw [show dC b.lives b.rate (p.age + (k : Int) - b.first).toNat = b.d (p.age + (k : Int)) from rfl]
      by_cases hd : b.d (p.age + (k : Int)) = 0
      · have Q := Lib.hid (show polB b p = false by
          cases e : polB b p
          · rfl
          · exact absurd hd ((pol_ok e).band k (by omega)))
        have HD := Lib.hid hd; clear hd
        rw [HD.out]
        rintro e w3 ⟨rfl, hb3⟩
        go_wp2
        go_ret
        exact ⟨by rw [Q.out]; rfl, hbw2.trans ((below_step hb hb3).mono hbw2.size)⟩
      · rintro e w3 ⟨rfl, hb3⟩
        go_wp2
        go_roundw
        case rel => exact ⟨k + 1, by omega, by go_num, Lib.hid (fun j h => by
          by_cases e : j = k
          · subst e; exact hd
          · exact hall.out j (by omega)), below_step hb hb3⟩
        case measure => simp [intOf]; omega
    · have Q := Lib.hid (show polB b p = true from pol_of h1 H2.out h3'.out fun i hi => hall.out i (by omega))
      go_wp2
      go_ret
      exact ⟨by rw [Q.out]; rfl, hbw2.trans (hb.mono hbw2.size)⟩
end Go.Proofs.YtkdfdbcpbgganaaGreatDoor
end

/- The difference of two products divided by a number, bit by bit: the reference's contract. -/
section
namespace Go.Proofs.YtkdfdbcpbgganaaGreatDoor
open Go.RowKit Go.BigFrame

theorem minus_parts {a b s c d A S : Int} (hA : 0 ≤ A ∧ A ≤ a) (hS : 0 ≤ S ∧ S ≤ s) (hb : 0 ≤ b) (hc : 0 ≤ c) (hd : 1 ≤ d) (h1 : a * b / d ≤ 100000000000000000) (h2 : s * c / d ≤ 100000000000000000) :
    -100000000000000001 ≤ (A * b - S * c) / d ∧ (A * b - S * c) / d ≤ 100000000000000000 := by
  have e1 : A * b ≤ a * b := Int.mul_le_mul_of_nonneg_right hA.2 hb
  have e2 : S * c ≤ s * c := Int.mul_le_mul_of_nonneg_right hS.2 hc
  have e3 : 0 ≤ A * b := Int.mul_nonneg hA.1 hb
  have e4 : 0 ≤ S * c := Int.mul_nonneg hS.1 hc
  have f1 : (A * b - S * c) / d ≤ a * b / d := Int.ediv_le_ediv (by omega) (by omega)
  have f2 : -(s * c) / d ≤ (A * b - S * c) / d := Int.ediv_le_ediv (by omega) (by omega)
  have f3 : -(s * c / d) - 1 ≤ -(s * c) / d := by
    apply Int.le_ediv_of_mul_le (by omega)
    have g1 := Int.mul_ediv_add_emod (s * c) d
    have g2 := Int.emod_lt_of_pos (s * c) (by omega : 0 < d)
    have g3 := Int.emod_nonneg (s * c) (by omega : d ≠ 0)
    rw [Int.sub_mul, Int.neg_mul, Int.mul_comm (s * c / d)]
    omega
  omega
theorem quo_of {x d q r : Int} (h : q * d + r = x) (h0 : 0 ≤ r) (h1 : r < d) : x / d = q ∧ x % d = r := by
  subst h
  rw [Int.add_comm, Int.add_mul_ediv_right _ _ (by omega), Int.ediv_eq_zero_of_lt h0 h1, Int.add_mul_emod_self_right, Int.emod_eq_of_lt h0 h1]
  omega
theorem q_near {x d q r : Int} (hd : 1 ≤ d) (h : q * d + r = x) (h0 : -d < r) (h1 : r < 3 * d) : x / d - 2 ≤ q ∧ q ≤ x / d + 1 := by
  have e : x / d = q + r / d := by subst h; rw [Int.add_comm, Int.add_mul_ediv_right _ _ (by omega)]; omega
  have e1 : -1 ≤ r / d := Int.le_ediv_of_mul_le (by omega) (by omega)
  have e2 : r / d < 3 := Int.ediv_lt_of_lt_mul (by omega) h1
  omega
theorem pow_half {a : Int} {k : Nat} (_ha : 0 ≤ a) : a / 2 ^ k / 2 = a / 2 ^ (k + 1) := by
  rw [Int.pow_succ, ← Int.ediv_ediv_of_nonneg (Int.pow_nonneg (by omega))]

end Go.Proofs.YtkdfdbcpbgganaaGreatDoor
end

/- Premiums, reserves and their codes: the reference's contracts. -/
section
namespace Go.Proofs.YtkdfdbcpbgganaaGreatDoor
open Go.RowKit Go.BigFrame
theorem polRow_size : (Policy.row ⟨0, 0, 0, 0, 0⟩).length = 5 := rfl


set_option maxHeartbeats 2000000 in
theorem spec_l10Net_any (b : Bas) (A : Option Addr) (n cap : Nat) (p : Policy) (w : World) (hB : BasT w A n cap b) (P : PolOk b p) :
    Calls Tryz.prog 94 #[.agg #[.int .i64 b.first, .slice A n cap, .int .i64 b.rate], .agg p.row.toArray] w fun e w' => e = .returned (.int .i64 (netP b p)) ∧ Below w.heap.size w w' := by
  have hbw := boxes_below (w := w) (X := b.row A n cap) (Y := p.row) (tx := 40) (ty := 42)
  have HB := Lib.hid ((Blk.new w 40 (b.row A n cap).toArray).alloc (.cells p.row.toArray 42))
  have HP := Lib.hid (Blk.new (w.alloc (.cells (b.row A n cap).toArray 40)) 42 p.row.toArray)
  rw [World.size_alloc] at HP
  unfold Bas.row Policy.row at *
  have HBT := Lib.hid (hB.past hbw); clear hB
  have Q := Lib.hid (show netP b p = upP p.sum (topF b.lives b.rate p.kind (p.age - b.first).toNat p.years.toNat) (baseF b.lives b.rate p.kind (p.age - b.first).toNat p.years.toNat) from rfl)
  have hd := d_age P
  unfold Bas.d Bas.ix at hd
  have a1 := P.age0; have a2 := P.age1; have y1 := P.yrs0; have y2 := P.yrs1; have s1 := P.sum0; have s2 := P.sum1
  have HPO := Lib.hid P; clear P
  go_enter Tryz.func94, Tryz.ntmps94
  go_wp2_with fail
  refine (spec_l07Level_any b.first A n cap b.lives b.rate p.kind p.age p.years p.sum _ HBT.out.lives HPO.out.tab ⟨HPO.out.rate0, HPO.out.rate1⟩ ⟨by omega, by omega⟩ ⟨by omega, by omega⟩ ⟨by omega, by omega⟩ (kind_or HPO.out) hd).mono ?_
  rintro e w1 ⟨rfl, hb1⟩
  go_wp2
  go_ret
  exact ⟨by rw [Q.out]; rfl, hbw.trans (hb1.mono hbw.size)⟩


set_option maxHeartbeats 2000000 in
theorem spec_l10Office_any (b : Bas) (A : Option Addr) (n cap : Nat) (p : Policy) (w : World) (hB : BasT w A n cap b) (P : PolOk b p) :
    Calls Tryz.prog 58 #[.agg #[.int .i64 b.first, .slice A n cap, .int .i64 b.rate], .agg p.row.toArray] w fun e w' => e = .returned (.int .i64 (officeP b p)) ∧ Below w.heap.size w w' := by
  have hbw := boxes_below (w := w) (X := b.row A n cap) (Y := p.row) (tx := 40) (ty := 42)
  have HB := Lib.hid ((Blk.new w 40 (b.row A n cap).toArray).alloc (.cells p.row.toArray 42))
  have HP := Lib.hid (Blk.new (w.alloc (.cells (b.row A n cap).toArray 40)) 42 p.row.toArray)
  rw [World.size_alloc] at HP
  unfold Bas.row Policy.row at *
  have HBT := Lib.hid (hB.past hbw); clear hB
  have Q := Lib.hid (show officeP b p = netP b p + ceilDiv (netP b p * p.load) 1000 from rfl)
  obtain ⟨o1, o2, o3, o4⟩ := office_bound P
  obtain ⟨n1, n2⟩ := net_bound P
  have hcd := ceil_bound o1
  obtain ⟨e1, e2⟩ := hcd
  have HPO := Lib.hid P; clear P
  go_enter Tryz.func58, Tryz.ntmps58
  go_wp2_with fail
  refine (spec_l10Net_any b A n cap p _ HBT.out HPO.out).mono ?_
  rintro e w1 ⟨rfl, hb1⟩
  have HB1 := Lib.hid (HB.out.below' hb1)
  have HP1 := Lib.hid (HP.out.below' hb1)
  have cp4 : w1.cell? ⟨w.heap.size + 1, 4, none⟩ = some (.int .i64 p.load) := HP1.out.cell 4
  go_wp2_with (first | (go_at_call 95; refine (spec_l01Up_any _ _ _ (by omega) (by omega) (by omega) (by omega)).mono ?_; rintro e w' ⟨rfl, rfl⟩))
  go_ret
  exact ⟨by rw [Q.out]; rfl, hbw.trans (hb1.mono hbw.size)⟩


theorem year_facts {b : Bas} {p : Policy} {k : Int} (Y : YearOk b p k) : (0 ≤ leftP p k ∧ leftP p k ≤ 120) ∧ b.first ≤ p.age + k ∧ p.age + k ≤ 300 ∧ k ≤ 150 := by
  have h1 := left_bound Y.toPolOk Y.k0
  have h2 := dur_bound Y.toPolOk
  have := Y.k1; have := Y.k0; have := Y.age0; have := Y.age1; have := Y.yrs0
  refine ⟨⟨?_, h1⟩, by omega, by omega, by omega⟩
  have h3 := Y.k1
  unfold leftP
  unfold durP at h3
  split
  · omega
  · rename_i h; rw [if_neg h] at h3; omega


end Go.Proofs.YtkdfdbcpbgganaaGreatDoor
end
