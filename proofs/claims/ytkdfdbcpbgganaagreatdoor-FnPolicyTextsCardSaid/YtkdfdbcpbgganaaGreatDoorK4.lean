/- Parts of a proof, one after another: Cols, StPolicy, StHolding, PolP. No condition. -/
import Derived.Test.YtkdfdbcpbgganaaGreatDoorK1
import Derived.Test.YtkdfdbcpbgganaaGreatDoorK2
import Derived.Test.YtkdfdbcpbgganaaGreatDoorK3
import Derived.Deep.Cut
import Derived.Deep.DeepCutAuto
/- The list of columns of a life table: the program's contract. -/
section
namespace Go.Proofs.YtkdfdbcpbgganaaGreatDoor
open Go.RowKit Go.BigFrame

theorem Columns.info : (Tryz.prog.info? 101).map (fun i => (i.zero, i.size, i.bytes)) = some (some (.agg #[.int .i64 0, .int .i64 0, .int .i64 0, .int .i64 0]), 4, 32) := by kernel_rfl
theorem Columns.size : (Tryz.prog.info? 101).map (·.size) = some 4 := by kernel_rfl
theorem columnsLen_any (A : Option Addr) (n cap : Nat) (w : World) :
    Calls Tryz.prog 104 #[.slice A n cap] w fun e w' => e = .returned (.int .i64 n) ∧ w = w' := by
  go_enter Tryz.func104, Tryz.ntmps104
  go_wp2
  go_ret
  exact ⟨rfl, rfl⟩
abbrev colRow (xs : List Int) (rate : Int) (k : Nat) : List Value := [.int .i64 (dC xs rate k), .int .i64 (nC xs rate k), .int .i64 (cC xs rate k), .int .i64 (mC xs rate k)]
def colRows (xs : List Int) (rate : Int) (top : Nat) : List (List Value) := (List.range top).map (colRow xs rate)
theorem colRows_get {xs : List Int} {rate : Int} {top k : Nat} (h : k < top) : (colRows xs rate top)[k]? = some (colRow xs rate k) := by simp [colRows, h]
/-- the rows from k on are there -/
def FromUp (cs : Array Value) (xs : List Int) (rate : Int) (k top : Nat) : Prop := ∀ j : Nat, k ≤ j → j < top → ∀ (i : Nat) (v : Value), (colRow xs rate j)[i]? = some v → cs[j * 4 + i]? = some v
theorem FromUp.step {cs : Array Value} {xs : List Int} {rate : Int} {k top : Nat} (h : FromUp cs xs rate (k + 1) top) (hs : cs.size = top * 4) (hk : k < top) : FromUp (putAt cs (k * 4) (colRow xs rate k)) xs rate k top := by
  intro j hj hjt i v hv
  have hi : i < 4 := (List.getElem?_eq_some_iff.1 hv).1
  have hl : (colRow xs rate k).length = 4 := rfl
  rw [putAt_get (by omega)]
  by_cases e : j = k
  · subst e
    rw [if_neg (by omega), if_pos (by omega), show j * 4 + i - j * 4 = i by omega]; exact hv
  · rw [if_neg (by omega), if_neg (by omega)]
    exact h j (by omega) hjt i v hv
theorem FromUp.rd {w : World} {g : Nat} {t : TypeId} {cs : Array Value} {xs : List Int} {rate : Int} {top : Nat} (hb : Blk w g t cs) (h : FromUp cs xs rate 0 top) : Rd w w.heap.size (some ⟨g, 0, none⟩) 4 (colRows xs rate top) := by
  refine .inr ⟨⟨g, 0, none⟩, rfl, hb.lt, fun k r hr => ?_⟩
  have hk : k < top := by have := (List.getElem?_eq_some_iff.1 hr).1; simpa [colRows] using this
  rw [colRows_get hk] at hr
  injection hr with hr
  subst hr
  refine ⟨rfl, fun j v hv => ?_⟩
  rw [add_none, hb.cell, Nat.zero_add]
  exact h k (by omega) hk j v hv

set_option maxHeartbeats 8000000 in
theorem impl_columnsOf_any (first : Int) (A : Option Addr) (n cap : Nat) (xs : List Int) (rate : Int) (w : World) (hT : LiesT w A n xs) (T : TabOk first xs) (hr : 0 ≤ rate ∧ rate ≤ 200) :
    Calls Tryz.prog 69 #[.agg #[.int .i64 first, .slice A n cap], .int .i64 rate] w fun e w' => ∃ g, e = .returned (.slice (some ⟨g, 0, none⟩) (151 - first).toNat (151 - first).toNat) ∧ Rd w' w'.heap.size (some ⟨g, 0, none⟩) 4 (colRows xs rate (151 - first).toNat) ∧ Below w.heap.size w w' := by
  have hbw : Below w.heap.size w (w.alloc (.cells #[.int .i64 first, .slice A n cap] 26)) := (Below.refl _ w).alloc (Nat.le_refl _) _
  have HB := Lib.hid (Blk.new w 26 #[.int .i64 first, .slice A n cap])
  have HT := Lib.hid (hT.past hbw); clear hT
  obtain ⟨r1, r2⟩ := hr
  have T1 := T.first0; have T2 := T.first1
  have HTab := Lib.hid T; clear T
  obtain ⟨top, htop⟩ := Int.eq_ofNat_of_zero_le (show 0 ≤ 151 - first by omega)
  have HE := Lib.hid (show (151 - first).toNat = top by omega)
  rw [HE.out]
  have htopi : 150 - first + 1 = (top : Int) := by omega
  have htop1 : top ≤ 151 := by omega
  have htop2 : 51 ≤ top := by omega
  have HTop := Lib.hid htop; clear htop
  have HD := Lib.hid (fun k : Nat => dC_bound HTab.out r1 k)
  have HCb := Lib.hid (fun k : Nat => cC_bound HTab.out r1 k)
  have HNb := Lib.hid (fun k : Nat => nC_bound HTab.out r1 k)
  have HMb := Lib.hid (fun k : Nat => mC_bound HTab.out r1 k)
  obtain ⟨i0, hi0, hz0, hz1, hz2⟩ := info_parts Columns.info
  have hmk : ∀ W : World, (Instr.makeSlice 98 (.int .i64 (top : Int)) (.int .i64 (top : Int))).run Tryz.prog W = .ok (.slice (some ⟨W.heap.size, 0, none⟩) top top) (W.alloc (.cells (madeCells (Value.agg #[.int .i64 0, .int .i64 0, .int .i64 0, .int .i64 0]).cells (top * 4)) 101)) := fun W => by
    have h := run_make_rowN (P := Tryz.prog) 98 101 i0 _ Tryz.underlying98 hi0 hz0 .i64 .i64 top top (Nat.le_refl _) (by rw [hz2]; omega) (by omega) W
    rw [hz1] at h
    exact h
  clear hi0 hz0 hz1 hz2
  have HMK := Lib.hid hmk; clear hmk
  go_enter Tryz.func69, Tryz.ntmps69
  go_wp2_with fail
  refine (impl_discounts_any rate _ ⟨r1, r2⟩).mono ?_
  rintro e w1 ⟨AD, cD, rfl, hD, hb1⟩
  have HB1 := Lib.hid (HB.out.below' hb1)
  have HT1 := Lib.hid (HT.out.past hb1)
  have HDR := Lib.hid hD.rd; clear hD
  have hbw1 : Below w.heap.size w w1 := hbw.trans (hb1.mono (by simp))
  have hs1 : w.heap.size + 1 ≤ w1.heap.size := by have := hb1.size; simpa using this
  have c0 : w1.cell? ⟨w.heap.size, 0, none⟩ = some (.int .i64 first) := HB1.out.cell 0
  have hmk := HMK.out w1
  go_wp2_with (first | (go_at_call 104; refine (columnsLen_any _ top top _).mono ?_; rintro e w' ⟨rfl, rfl⟩))
  clear hmk
  go_loopw [8] (fun i wr => ∃ r : Nat, r ≤ top ∧ i = .int .i64 ((r : Int) - 1) ∧ (∃ cs, Blk wr w1.heap.size 101 cs ∧ cs.size = top * 4 ∧ FromUp cs xs rate r top) ∧ Blk wr (w1.heap.size + 1) 101 #[.int .i64 0, .int .i64 (nC xs rate r), .int .i64 0, .int .i64 (mC xs rate r)] ∧ Below w1.heap.size w1 wr) (fun i _ => (intOf i + 1).toNat)
  case atStart =>
    refine ⟨top, by omega, rfl, ⟨_, (Blk.new w1 _ _).alloc _, by simp [madeCells], fun j h1 h2 => by omega⟩, ?_, ((Below.refl _ w1).alloc (Nat.le_refl _) _).alloc (by simp) _⟩
    rw [nC_zero HTab.out top (by have := HTab.out.len1; have := HTab.out.top; have := HTop.out; omega), mC_zero HTab.out top (by have := HTab.out.len1; have := HTab.out.top; have := HTop.out; omega)]
    have := Blk.new (w1.alloc (.cells (madeCells (Value.agg #[.int .i64 0, .int .i64 0, .int .i64 0, .int .i64 0]).cells (top * 4)) 101)) 101 #[.int .i64 0, .int .i64 0, .int .i64 0, .int .i64 0]
    rw [World.size_alloc] at this
    exact this
  case round =>
    obtain ⟨r, hrt, rfl, ⟨cs, hO, hcs, hup⟩, hS, hb⟩ := hrel
    have HO := Lib.hid hO; clear hO
    have HS := Lib.hid hS; clear hS
    have HUp := Lib.hid hup; clear hup
    have Hcs := Lib.hid hcs; clear hcs
    have hsz := hb.size
    have hO1 := HO.out.lt
    have hS1 := HS.out.lt
    cases r with
    | zero =>
      rw [show (((0 : Nat) : Int) - 1) = -1 from rfl]
      go_wp2
      go_ret
      exact ⟨_, rfl, FromUp.rd HO.out HUp.out, hbw1.trans (hb.mono (by omega))⟩
    | succ k =>
      rw [show (((k + 1 : Nat) : Int) - 1) = (k : Int) by omega]
      have hkt : k < top := by omega
      have hki : (k : Int) < (top : Int) := by omega
      have HBr := Lib.hid ((HB1.out.below hb (by omega)).alloc (.cells #[.int .i64 0, .int .i64 0, .int .i64 0, .int .i64 0] 101))
      have HTr := Lib.hid (HT1.out.past (hb.alloc hsz (.cells #[.int .i64 0, .int .i64 0, .int .i64 0, .int .i64 0] 101)))
      have HSr := Lib.hid (HS.out.alloc (.cells #[.int .i64 0, .int .i64 0, .int .i64 0, .int .i64 0] 101))
      have HOr := Lib.hid (HO.out.alloc (.cells #[.int .i64 0, .int .i64 0, .int .i64 0, .int .i64 0] 101))
      have HCr := Lib.hid (Blk.new wr 101 #[.int .i64 0, .int .i64 0, .int .i64 0, .int .i64 0])
      have hbr := hb.alloc hsz (.cells #[.int .i64 0, .int .i64 0, .int .i64 0, .int .i64 0] 101)
      have HDr := Lib.hid (HDR.out.past hbr)
      obtain ⟨d1, d2⟩ := HD.out k
      obtain ⟨wR, hwR⟩ : ∃ wR, wr.alloc (.cells #[.int .i64 0, .int .i64 0, .int .i64 0, .int .i64 0] 101) = wR := ⟨_, rfl⟩
      have HWR := Lib.hid hwR
      rw [hwR] at HBr HTr HSr HOr HCr hbr HDr
      have hR0 : wr.heap.size + 1 = wR.heap.size := by rw [← hwR]; simp
      clear hwR
      by_cases hk120 : k ≤ 120
      · have hk120i : (k : Int) ≤ 120 := by omega
        obtain ⟨ad, hAD, had, hck⟩ := HDr.out.int_at (discL_get rate (show k < 121 by omega))
        subst hAD
        have q0 := fun y : Past wR => Past.cell (p := ⟨w.heap.size, 0, none⟩) (v := .int .i64 first) (HBr.out.cell 0) y
        have q1 := fun y : Past wR => Past.cell hck y
        have hcT := Lib.hid (Blk.agg_past (cs := [.int .i64 first, .slice A n cap]) HBr.out 0 [.int .i64 first, .slice A n cap] rfl)
        have QD := Lib.hid (show lv xs k * disc rate k = dC xs rate k from rfl)
        have hd2 := QD.out
        have HEk := Lib.hid (show (first + (k : Int) - first).toNat = k by omega)
        go_wp2
        rw [HWR.out]
        refine wp_region_past_tail 12 (by kernel_rfl) (by kernel_rfl) ?_
        simp only [List.take_succ_cons, List.take_zero, List.drop_succ_cons, List.drop_zero]
        repeat (first | (go_big_quiet_want; (first | (refine quiet_load_agg 26 _ rfl ⟨w.heap.size, 0, none⟩ rfl [.int .i64 first, .slice A n cap] hcT.out _ Tryz.underlying26 rfl Tab.size ?_)); go_simp; go_big_quiet_on) | go_big_quiet_step ((go_at_call 105; exact past_call ((impl_LifeTable_lives_any first A n cap xs (first + (k : Int)) _ (HTr.out.at_past _) HTab.out ⟨by omega, by omega⟩).mono (by rw [HEk.out]; exact fun _ _ h => h)))))
        refine wpQuiet_nil ?_
        rintro _ ⟨y, rfl⟩
        clear q0 q1 hcT
        have HCy := Lib.hid (HCr.out.below' y.2)
        have HBy := Lib.hid (HBr.out.below' y.2)
        have HTy := Lib.hid (HTr.out.past y.2)
        have HSy := Lib.hid (HSr.out.below' y.2)
        have HOy := Lib.hid (HOr.out.below' y.2)
        have HDy := Lib.hid (HDr.out.past y.2)
        have hby : Below w1.heap.size w1 y.1 := hbr.trans (y.2.mono hbr.size)
        have fz : y.1.frozen? ⟨wr.heap.size, 0, none⟩ = false := HCy.out.frozen 0
        have cz : y.1.cell? ⟨wr.heap.size, 0, none⟩ = some (.int .i64 0) := HCy.out.cell 0
        go_upto_region 10 with (fail)
        clear hd2
        obtain ⟨wa, hwa⟩ : ∃ wa, y.1.setCell ⟨wr.heap.size, 0, none⟩ (.int .i64 (dC xs rate k)) = wa := ⟨_, rfl⟩
        have HCa : Hid (Blk wa wr.heap.size 101 #[.int .i64 (dC xs rate k), .int .i64 0, .int .i64 0, .int .i64 0]) := Lib.hid (by have h9 := HCy.out.set_ 0 (.int .i64 (dC xs rate k)); rw [hwa] at h9; exact h9)
        have HBa := Lib.hid (HBy.out.far (p := ⟨wr.heap.size, 0, none⟩) (by show w.heap.size ≠ wr.heap.size; omega) (.int .i64 (dC xs rate k))); rw [hwa] at HBa
        have HSa := Lib.hid (HSy.out.far (p := ⟨wr.heap.size, 0, none⟩) (by show (w1.heap.size + 1) ≠ wr.heap.size; omega) (.int .i64 (dC xs rate k))); rw [hwa] at HSa
        have HOa := Lib.hid (HOy.out.far (p := ⟨wr.heap.size, 0, none⟩) (by show w1.heap.size ≠ wr.heap.size; omega) (.int .i64 (dC xs rate k))); rw [hwa] at HOa
        have hba := hby.setCell (p := ⟨wr.heap.size, 0, none⟩) (by show w1.heap.size ≤ wr.heap.size; omega) (.int .i64 (dC xs rate k)); rw [hwa] at hba
        have HTa := Lib.hid (HT1.out.past hba)
        have HDa := Lib.hid (HDR.out.past hba)
        rw [hwa]
        clear hwa
        clear fz cz
        by_cases hk119 : k + 1 ≤ 120
        · have hk119i : (k : Int) + 1 ≤ 120 := by omega
          obtain ⟨ad2, hAD2, had2, hck2⟩ := HDa.out.int_at (discL_get rate (show k + 1 < 121 by omega))
          injection hAD2 with hAD2; subst hAD2
          rw [show ad.add (k + 1) = ⟨ad.block, ad.off + (k + 1), none⟩ from by simp [Addr.add]] at hck2
          have q0 := fun y : Past wa => Past.cell (p := ⟨w.heap.size, 0, none⟩) (v := .int .i64 first) (HBa.out.cell 0) y
          have q1 := fun y : Past wa => Past.cell hck2 y
          have hcT := Lib.hid (Blk.agg_past (cs := [.int .i64 first, .slice A n cap]) HBa.out 0 [.int .i64 first, .slice A n cap] rfl)
          have QC := Lib.hid (show (lv xs k - lv xs (k + 1)) * disc rate (k + 1) = cC xs rate k from rfl)
          have hc2 := QC.out
          obtain ⟨g1, g2⟩ := HCb.out k
          obtain ⟨g3, g4⟩ := HD.out (k + 1)
          have HEk := Lib.hid (show (first + (k : Int) - first).toNat = k by omega)
          go_wp2
          refine wp_region_past_tail 13 (by kernel_rfl) (by kernel_rfl) ?_
          simp only [List.take_succ_cons, List.take_zero, List.drop_succ_cons, List.drop_zero]
          repeat (first | (go_big_quiet_want; (first | (refine quiet_load_agg 26 _ rfl ⟨w.heap.size, 0, none⟩ rfl [.int .i64 first, .slice A n cap] hcT.out _ Tryz.underlying26 rfl Tab.size ?_)); go_simp; go_big_quiet_on) | go_big_quiet_step ((go_at_call 106; exact past_call ((impl_LifeTable_deaths_any first A n cap xs (first + (k : Int)) _ (HTa.out.at_past _) HTab.out ⟨by omega, by omega⟩).mono (by rw [HEk.out]; exact fun _ _ h => h)))))
          refine wpQuiet_nil ?_
          rintro _ ⟨z, rfl⟩
          clear q0 q1 hcT
          have HCz := Lib.hid (HCa.out.below' z.2)
          have HBz := Lib.hid (HBa.out.below' z.2)
          have HTz := Lib.hid (HTa.out.past z.2)
          have HSz := Lib.hid (HSa.out.below' z.2)
          have HOz := Lib.hid (HOa.out.below' z.2)
          have HDz := Lib.hid (HDa.out.past z.2)
          have hbz : Below w1.heap.size w1 z.1 := hba.trans (z.2.mono hba.size)
          have fz : z.1.frozen? ⟨wr.heap.size, 2, none⟩ = false := HCz.out.frozen 2
          have cz : z.1.cell? ⟨wr.heap.size, 2, none⟩ = some (.int .i64 0) := HCz.out.cell 2
          go_upto_region 12 with (fail)
          clear hc2
          obtain ⟨wv, hwv⟩ : ∃ wv, z.1.setCell ⟨wr.heap.size, 2, none⟩ (.int .i64 (cC xs rate k)) = wv := ⟨_, rfl⟩
          have HCv : Hid (Blk wv wr.heap.size 101 #[.int .i64 (dC xs rate k), .int .i64 0, .int .i64 (cC xs rate k), .int .i64 0]) := Lib.hid (by have h9 := HCz.out.set_ 2 (.int .i64 (cC xs rate k)); rw [hwv] at h9; exact h9)
          have HBv := Lib.hid (HBz.out.far (p := ⟨wr.heap.size, 2, none⟩) (by show w.heap.size ≠ wr.heap.size; omega) (.int .i64 (cC xs rate k))); rw [hwv] at HBv
          have HSv := Lib.hid (HSz.out.far (p := ⟨wr.heap.size, 2, none⟩) (by show (w1.heap.size + 1) ≠ wr.heap.size; omega) (.int .i64 (cC xs rate k))); rw [hwv] at HSv
          have HOv := Lib.hid (HOz.out.far (p := ⟨wr.heap.size, 2, none⟩) (by show w1.heap.size ≠ wr.heap.size; omega) (.int .i64 (cC xs rate k))); rw [hwv] at HOv
          have hbv := hbz.setCell (p := ⟨wr.heap.size, 2, none⟩) (by show w1.heap.size ≤ wr.heap.size; omega) (.int .i64 (cC xs rate k)); rw [hwv] at hbv
          have HTv := Lib.hid (HT1.out.past hbv)
          have HDv := Lib.hid (HDR.out.past hbv)
          rw [hwv]
          clear hwv
          clear fz cz
          have s1 : wv.cell? ⟨w1.heap.size + 1, 1, none⟩ = some (.int .i64 (nC xs rate (k + 1))) := HSv.out.cell 1
          have c0 : wv.cell? ⟨wr.heap.size, 0, none⟩ = some (.int .i64 (dC xs rate k)) := HCv.out.cell 0
          have sf : wv.frozen? ⟨w1.heap.size + 1, 1, none⟩ = false := HSv.out.frozen 1
          obtain ⟨n1, n2⟩ := HNb.out (k + 1)
          obtain ⟨n3, n4⟩ := HD.out (k + 1)
          have hns : nC xs rate (k + 1) + dC xs rate k = nC xs rate k := by rw [nC_step HTab.out k]; omega
          go_upto_region 13 with (fail)
          have HNS := Lib.hid hns; clear hns
          obtain ⟨we, hwe⟩ : ∃ we, wv.setCell ⟨(w1.heap.size + 1), 1, none⟩ (.int .i64 (nC xs rate k)) = we := ⟨_, rfl⟩
          have HCe := Lib.hid (HCv.out.far (p := ⟨(w1.heap.size + 1), 1, none⟩) (by show wr.heap.size ≠ (w1.heap.size + 1); omega) (.int .i64 (nC xs rate k))); rw [hwe] at HCe
          have HBe := Lib.hid (HBv.out.far (p := ⟨(w1.heap.size + 1), 1, none⟩) (by show w.heap.size ≠ (w1.heap.size + 1); omega) (.int .i64 (nC xs rate k))); rw [hwe] at HBe
          have HSe : Hid (Blk we (w1.heap.size + 1) 101 #[.int .i64 0, .int .i64 (nC xs rate k), .int .i64 0, .int .i64 (mC xs rate (k + 1))]) := Lib.hid (by have h9 := HSv.out.set_ 1 (.int .i64 (nC xs rate k)); rw [hwe] at h9; exact h9)
          have HOe := Lib.hid (HOv.out.far (p := ⟨(w1.heap.size + 1), 1, none⟩) (by show w1.heap.size ≠ (w1.heap.size + 1); omega) (.int .i64 (nC xs rate k))); rw [hwe] at HOe
          have hbe := hbv.setCell (p := ⟨(w1.heap.size + 1), 1, none⟩) (by show w1.heap.size ≤ (w1.heap.size + 1); omega) (.int .i64 (nC xs rate k)); rw [hwe] at hbe
          have HTe := Lib.hid (HT1.out.past hbe)
          have HDe := Lib.hid (HDR.out.past hbe)
          rw [hwe]
          clear hwe
          clear s1 c0 sf
          have s3 : we.cell? ⟨w1.heap.size + 1, 3, none⟩ = some (.int .i64 (mC xs rate (k + 1))) := HSe.out.cell 3
          have c2 : we.cell? ⟨wr.heap.size, 2, none⟩ = some (.int .i64 (cC xs rate k)) := HCe.out.cell 2
          have sf : we.frozen? ⟨w1.heap.size + 1, 3, none⟩ = false := HSe.out.frozen 3
          obtain ⟨m1, m2⟩ := HMb.out (k + 1)
          obtain ⟨m3, m4⟩ := HCb.out k
          have hms : mC xs rate (k + 1) + cC xs rate k = mC xs rate k := by rw [mC_step HTab.out k]; omega
          go_upto_region 14 with (fail)
          have HMS := Lib.hid hms; clear hms
          obtain ⟨wf, hwf⟩ : ∃ wf, we.setCell ⟨(w1.heap.size + 1), 3, none⟩ (.int .i64 (mC xs rate k)) = wf := ⟨_, rfl⟩
          have HCf := Lib.hid (HCe.out.far (p := ⟨(w1.heap.size + 1), 3, none⟩) (by show wr.heap.size ≠ (w1.heap.size + 1); omega) (.int .i64 (mC xs rate k))); rw [hwf] at HCf
          have HBf := Lib.hid (HBe.out.far (p := ⟨(w1.heap.size + 1), 3, none⟩) (by show w.heap.size ≠ (w1.heap.size + 1); omega) (.int .i64 (mC xs rate k))); rw [hwf] at HBf
          have HSf : Hid (Blk wf (w1.heap.size + 1) 101 #[.int .i64 0, .int .i64 (nC xs rate k), .int .i64 0, .int .i64 (mC xs rate k)]) := Lib.hid (by have h9 := HSe.out.set_ 3 (.int .i64 (mC xs rate k)); rw [hwf] at h9; exact h9)
          have HOf := Lib.hid (HOe.out.far (p := ⟨(w1.heap.size + 1), 3, none⟩) (by show w1.heap.size ≠ (w1.heap.size + 1); omega) (.int .i64 (mC xs rate k))); rw [hwf] at HOf
          have hbf := hbe.setCell (p := ⟨(w1.heap.size + 1), 3, none⟩) (by show w1.heap.size ≤ (w1.heap.size + 1); omega) (.int .i64 (mC xs rate k)); rw [hwf] at hbf
          have HTf := Lib.hid (HT1.out.past hbf)
          have HDf := Lib.hid (HDR.out.past hbf)
          rw [hwf]
          clear hwf
          clear s3 c2 sf
          have s1 : wf.cell? ⟨w1.heap.size + 1, 1, none⟩ = some (.int .i64 (nC xs rate k)) := HSf.out.cell 1
          have s3 : wf.cell? ⟨w1.heap.size + 1, 3, none⟩ = some (.int .i64 (mC xs rate k)) := HSf.out.cell 3
          have e1 : wf.cell? ⟨wr.heap.size, 1, none⟩ = some (.int .i64 0) := HCf.out.cell 1
          have e3 : wf.cell? ⟨wr.heap.size, 3, none⟩ = some (.int .i64 0) := HCf.out.cell 3
          have fz1 : wf.frozen? ⟨wr.heap.size, 1, none⟩ = false := HCf.out.frozen 1
          have fz3 : wf.frozen? ⟨wr.heap.size, 3, none⟩ = false := HCf.out.frozen 3
          have hne : ¬ w1.heap.size + 1 = wr.heap.size := by omega
          have hne2 : ¬ wr.heap.size = w1.heap.size + 1 := by omega
          go_region
          obtain ⟨wg, hwg⟩ : ∃ wg, ((wf.setCell ⟨wr.heap.size, 1, none⟩ (.int .i64 (nC xs rate k))).setCell ⟨wr.heap.size, 3, none⟩ (.int .i64 (mC xs rate k))).drew = wg := ⟨_, rfl⟩
          have HCg : Hid (Blk wg wr.heap.size 101 (colRow xs rate k).toArray) := Lib.hid (by have h9 := ((HCf.out.set_ 1 (.int .i64 (nC xs rate k))).set_ 3 (.int .i64 (mC xs rate k))).drew; rw [hwg] at h9; exact h9)
          have HSg := Lib.hid (((HSf.out.far (p := ⟨wr.heap.size, 1, none⟩) (by show w1.heap.size + 1 ≠ wr.heap.size; omega) (.int .i64 (nC xs rate k))).far (p := ⟨wr.heap.size, 3, none⟩) (by show w1.heap.size + 1 ≠ wr.heap.size; omega) (.int .i64 (mC xs rate k))).drew); rw [hwg] at HSg
          have HOg := Lib.hid (((HOf.out.far (p := ⟨wr.heap.size, 1, none⟩) (by show w1.heap.size ≠ wr.heap.size; omega) (.int .i64 (nC xs rate k))).far (p := ⟨wr.heap.size, 3, none⟩) (by show w1.heap.size ≠ wr.heap.size; omega) (.int .i64 (mC xs rate k))).drew); rw [hwg] at HOg
          have hbg := ((hbf.setCell (p := ⟨wr.heap.size, 1, none⟩) (by show w1.heap.size ≤ wr.heap.size; omega) (.int .i64 (nC xs rate k))).setCell (p := ⟨wr.heap.size, 3, none⟩) (by show w1.heap.size ≤ wr.heap.size; omega) (.int .i64 (mC xs rate k))).drew; rw [hwg] at hbg
          rw [hwg]
          clear hwg s1 s3 e1 e3 fz1 fz3
          have hcC := Lib.hid (Blk.agg (cs := colRow xs rate k) HCg.out 0 (colRow xs rate k) rfl)
          have hfit : k * 4 + (colRow xs rate k).length ≤ cs.size := by rw [Hcs.out]; show k * 4 + 4 ≤ top * 4; omega
          have hsg := hbg.size
          have H1c : Hid (∀ v ∈ colRow xs rate k, v.oneCell' = true) := Lib.hid (by simp [Value.oneCell'])
          go_wp2_with (first | (refine wpList_load_agg rfl 101 _ rfl ⟨wr.heap.size, 0, none⟩ rfl (colRow xs rate k) hcC.out _ Tryz.underlying101 rfl Columns.size ?_) | (refine wpList_store_agg rfl 101 _ _ rfl w1.heap.size (k * 4) (colRow xs rate k) rfl rfl 101 cs HOg.out Columns.size hfit H1c.out ?_))
          intro w9 hcs9 hg9 hs9
          have HO9 := Lib.hid hcs9; clear hcs9
          have HS9 := Lib.hid (HSg.out.grown hg9 (by intro e; injection e with e; omega))
          have hb9 : Below w1.heap.size w1 w9 := hbg.trans (below_grown hg9 (by omega))
          clear hg9 hs9
          go_wp2
          go_roundw
          case rel => exact ⟨k, by omega, by go_num, ⟨_, HO9.out, by rw [putAt_size hfit]; exact Hcs.out, FromUp.step HUp.out Hcs.out hkt⟩, HS9.out, hb9⟩
          case measure => simp [intOf] <;> omega
        have hk119i : ¬ (k : Int) + 1 ≤ 120 := by omega
        have hc0 : cC xs rate k = 0 := cC_zero HTab.out k (by have := HTab.out.len1; omega)
        have HCx : Hid (Blk wa wr.heap.size 101 #[.int .i64 (dC xs rate k), .int .i64 0, .int .i64 (cC xs rate k), .int .i64 0]) := Lib.hid (by rw [hc0]; exact HCa.out)
        clear HCa hc0
        have HCa := HCx
        clear HCx
        go_upto_region 12 with (fail)
        have s1 : wa.cell? ⟨w1.heap.size + 1, 1, none⟩ = some (.int .i64 (nC xs rate (k + 1))) := HSa.out.cell 1
        have c0 : wa.cell? ⟨wr.heap.size, 0, none⟩ = some (.int .i64 (dC xs rate k)) := HCa.out.cell 0
        have sf : wa.frozen? ⟨w1.heap.size + 1, 1, none⟩ = false := HSa.out.frozen 1
        obtain ⟨n1, n2⟩ := HNb.out (k + 1)
        obtain ⟨n3, n4⟩ := HD.out (k + 1)
        have hns : nC xs rate (k + 1) + dC xs rate k = nC xs rate k := by rw [nC_step HTab.out k]; omega
        go_upto_region 13 with (fail)
        have HNS := Lib.hid hns; clear hns
        obtain ⟨we, hwe⟩ : ∃ we, wa.setCell ⟨(w1.heap.size + 1), 1, none⟩ (.int .i64 (nC xs rate k)) = we := ⟨_, rfl⟩
        have HCe := Lib.hid (HCa.out.far (p := ⟨(w1.heap.size + 1), 1, none⟩) (by show wr.heap.size ≠ (w1.heap.size + 1); omega) (.int .i64 (nC xs rate k))); rw [hwe] at HCe
        have HBe := Lib.hid (HBa.out.far (p := ⟨(w1.heap.size + 1), 1, none⟩) (by show w.heap.size ≠ (w1.heap.size + 1); omega) (.int .i64 (nC xs rate k))); rw [hwe] at HBe
        have HSe : Hid (Blk we (w1.heap.size + 1) 101 #[.int .i64 0, .int .i64 (nC xs rate k), .int .i64 0, .int .i64 (mC xs rate (k + 1))]) := Lib.hid (by have h9 := HSa.out.set_ 1 (.int .i64 (nC xs rate k)); rw [hwe] at h9; exact h9)
        have HOe := Lib.hid (HOa.out.far (p := ⟨(w1.heap.size + 1), 1, none⟩) (by show w1.heap.size ≠ (w1.heap.size + 1); omega) (.int .i64 (nC xs rate k))); rw [hwe] at HOe
        have hbe := hba.setCell (p := ⟨(w1.heap.size + 1), 1, none⟩) (by show w1.heap.size ≤ (w1.heap.size + 1); omega) (.int .i64 (nC xs rate k)); rw [hwe] at hbe
        have HTe := Lib.hid (HT1.out.past hbe)
        have HDe := Lib.hid (HDR.out.past hbe)
        rw [hwe]
        clear hwe
        clear s1 c0 sf
        have s3 : we.cell? ⟨w1.heap.size + 1, 3, none⟩ = some (.int .i64 (mC xs rate (k + 1))) := HSe.out.cell 3
        have c2 : we.cell? ⟨wr.heap.size, 2, none⟩ = some (.int .i64 (cC xs rate k)) := HCe.out.cell 2
        have sf : we.frozen? ⟨w1.heap.size + 1, 3, none⟩ = false := HSe.out.frozen 3
        obtain ⟨m1, m2⟩ := HMb.out (k + 1)
        obtain ⟨m3, m4⟩ := HCb.out k
        have hms : mC xs rate (k + 1) + cC xs rate k = mC xs rate k := by rw [mC_step HTab.out k]; omega
        go_upto_region 14 with (fail)
        have HMS := Lib.hid hms; clear hms
        obtain ⟨wf, hwf⟩ : ∃ wf, we.setCell ⟨(w1.heap.size + 1), 3, none⟩ (.int .i64 (mC xs rate k)) = wf := ⟨_, rfl⟩
        have HCf := Lib.hid (HCe.out.far (p := ⟨(w1.heap.size + 1), 3, none⟩) (by show wr.heap.size ≠ (w1.heap.size + 1); omega) (.int .i64 (mC xs rate k))); rw [hwf] at HCf
        have HBf := Lib.hid (HBe.out.far (p := ⟨(w1.heap.size + 1), 3, none⟩) (by show w.heap.size ≠ (w1.heap.size + 1); omega) (.int .i64 (mC xs rate k))); rw [hwf] at HBf
        have HSf : Hid (Blk wf (w1.heap.size + 1) 101 #[.int .i64 0, .int .i64 (nC xs rate k), .int .i64 0, .int .i64 (mC xs rate k)]) := Lib.hid (by have h9 := HSe.out.set_ 3 (.int .i64 (mC xs rate k)); rw [hwf] at h9; exact h9)
        have HOf := Lib.hid (HOe.out.far (p := ⟨(w1.heap.size + 1), 3, none⟩) (by show w1.heap.size ≠ (w1.heap.size + 1); omega) (.int .i64 (mC xs rate k))); rw [hwf] at HOf
        have hbf := hbe.setCell (p := ⟨(w1.heap.size + 1), 3, none⟩) (by show w1.heap.size ≤ (w1.heap.size + 1); omega) (.int .i64 (mC xs rate k)); rw [hwf] at hbf
        have HTf := Lib.hid (HT1.out.past hbf)
        have HDf := Lib.hid (HDR.out.past hbf)
        rw [hwf]
        clear hwf
        clear s3 c2 sf
        have s1 : wf.cell? ⟨w1.heap.size + 1, 1, none⟩ = some (.int .i64 (nC xs rate k)) := HSf.out.cell 1
        have s3 : wf.cell? ⟨w1.heap.size + 1, 3, none⟩ = some (.int .i64 (mC xs rate k)) := HSf.out.cell 3
        have e1 : wf.cell? ⟨wr.heap.size, 1, none⟩ = some (.int .i64 0) := HCf.out.cell 1
        have e3 : wf.cell? ⟨wr.heap.size, 3, none⟩ = some (.int .i64 0) := HCf.out.cell 3
        have fz1 : wf.frozen? ⟨wr.heap.size, 1, none⟩ = false := HCf.out.frozen 1
        have fz3 : wf.frozen? ⟨wr.heap.size, 3, none⟩ = false := HCf.out.frozen 3
        have hne : ¬ w1.heap.size + 1 = wr.heap.size := by omega
        have hne2 : ¬ wr.heap.size = w1.heap.size + 1 := by omega
        go_region
        obtain ⟨wg, hwg⟩ : ∃ wg, ((wf.setCell ⟨wr.heap.size, 1, none⟩ (.int .i64 (nC xs rate k))).setCell ⟨wr.heap.size, 3, none⟩ (.int .i64 (mC xs rate k))).drew = wg := ⟨_, rfl⟩
        have HCg : Hid (Blk wg wr.heap.size 101 (colRow xs rate k).toArray) := Lib.hid (by have h9 := ((HCf.out.set_ 1 (.int .i64 (nC xs rate k))).set_ 3 (.int .i64 (mC xs rate k))).drew; rw [hwg] at h9; exact h9)
        have HSg := Lib.hid (((HSf.out.far (p := ⟨wr.heap.size, 1, none⟩) (by show w1.heap.size + 1 ≠ wr.heap.size; omega) (.int .i64 (nC xs rate k))).far (p := ⟨wr.heap.size, 3, none⟩) (by show w1.heap.size + 1 ≠ wr.heap.size; omega) (.int .i64 (mC xs rate k))).drew); rw [hwg] at HSg
        have HOg := Lib.hid (((HOf.out.far (p := ⟨wr.heap.size, 1, none⟩) (by show w1.heap.size ≠ wr.heap.size; omega) (.int .i64 (nC xs rate k))).far (p := ⟨wr.heap.size, 3, none⟩) (by show w1.heap.size ≠ wr.heap.size; omega) (.int .i64 (mC xs rate k))).drew); rw [hwg] at HOg
        have hbg := ((hbf.setCell (p := ⟨wr.heap.size, 1, none⟩) (by show w1.heap.size ≤ wr.heap.size; omega) (.int .i64 (nC xs rate k))).setCell (p := ⟨wr.heap.size, 3, none⟩) (by show w1.heap.size ≤ wr.heap.size; omega) (.int .i64 (mC xs rate k))).drew; rw [hwg] at hbg
        rw [hwg]
        clear hwg s1 s3 e1 e3 fz1 fz3
        have hcC := Lib.hid (Blk.agg (cs := colRow xs rate k) HCg.out 0 (colRow xs rate k) rfl)
        have hfit : k * 4 + (colRow xs rate k).length ≤ cs.size := by rw [Hcs.out]; show k * 4 + 4 ≤ top * 4; omega
        have hsg := hbg.size
        have H1c : Hid (∀ v ∈ colRow xs rate k, v.oneCell' = true) := Lib.hid (by simp [Value.oneCell'])
        go_wp2_with (first | (refine wpList_load_agg rfl 101 _ rfl ⟨wr.heap.size, 0, none⟩ rfl (colRow xs rate k) hcC.out _ Tryz.underlying101 rfl Columns.size ?_) | (refine wpList_store_agg rfl 101 _ _ rfl w1.heap.size (k * 4) (colRow xs rate k) rfl rfl 101 cs HOg.out Columns.size hfit H1c.out ?_))
        intro w9 hcs9 hg9 hs9
        have HO9 := Lib.hid hcs9; clear hcs9
        have HS9 := Lib.hid (HSg.out.grown hg9 (by intro e; injection e with e; omega))
        have hb9 : Below w1.heap.size w1 w9 := hbg.trans (below_grown hg9 (by omega))
        clear hg9 hs9
        go_wp2
        go_roundw
        case rel => exact ⟨k, by omega, by go_num, ⟨_, HO9.out, by rw [putAt_size hfit]; exact Hcs.out, FromUp.step HUp.out Hcs.out hkt⟩, HS9.out, hb9⟩
        case measure => simp [intOf] <;> omega
      have hk120i : ¬ (k : Int) ≤ 120 := by omega
      have hk119i : ¬ (k : Int) + 1 ≤ 120 := by omega
      have hd0 : dC xs rate k = 0 := dC_zero HTab.out k (by have := HTab.out.len1; omega)
      have hc0 : cC xs rate k = 0 := cC_zero HTab.out k (by have := HTab.out.len1; omega)
      have HCx : Hid (Blk wR wr.heap.size 101 #[.int .i64 (dC xs rate k), .int .i64 0, .int .i64 (cC xs rate k), .int .i64 0]) := Lib.hid (by rw [hc0, hd0]; exact HCr.out)
      clear HCr hc0 hd0
      have HCr := HCx
      clear HCx
      go_upto_region 12 with (fail)
      rw [HWR.out]
      have s1 : wR.cell? ⟨w1.heap.size + 1, 1, none⟩ = some (.int .i64 (nC xs rate (k + 1))) := HSr.out.cell 1
      have c0 : wR.cell? ⟨wr.heap.size, 0, none⟩ = some (.int .i64 (dC xs rate k)) := HCr.out.cell 0
      have sf : wR.frozen? ⟨w1.heap.size + 1, 1, none⟩ = false := HSr.out.frozen 1
      obtain ⟨n1, n2⟩ := HNb.out (k + 1)
      obtain ⟨n3, n4⟩ := HD.out (k + 1)
      have hns : nC xs rate (k + 1) + dC xs rate k = nC xs rate k := by rw [nC_step HTab.out k]; omega
      go_upto_region 13 with (fail)
      have HNS := Lib.hid hns; clear hns
      obtain ⟨we, hwe⟩ : ∃ we, wR.setCell ⟨(w1.heap.size + 1), 1, none⟩ (.int .i64 (nC xs rate k)) = we := ⟨_, rfl⟩
      have HCe := Lib.hid (HCr.out.far (p := ⟨(w1.heap.size + 1), 1, none⟩) (by show wr.heap.size ≠ (w1.heap.size + 1); omega) (.int .i64 (nC xs rate k))); rw [hwe] at HCe
      have HBe := Lib.hid (HBr.out.far (p := ⟨(w1.heap.size + 1), 1, none⟩) (by show w.heap.size ≠ (w1.heap.size + 1); omega) (.int .i64 (nC xs rate k))); rw [hwe] at HBe
      have HSe : Hid (Blk we (w1.heap.size + 1) 101 #[.int .i64 0, .int .i64 (nC xs rate k), .int .i64 0, .int .i64 (mC xs rate (k + 1))]) := Lib.hid (by have h9 := HSr.out.set_ 1 (.int .i64 (nC xs rate k)); rw [hwe] at h9; exact h9)
      have HOe := Lib.hid (HOr.out.far (p := ⟨(w1.heap.size + 1), 1, none⟩) (by show w1.heap.size ≠ (w1.heap.size + 1); omega) (.int .i64 (nC xs rate k))); rw [hwe] at HOe
      have hbe := hbr.setCell (p := ⟨(w1.heap.size + 1), 1, none⟩) (by show w1.heap.size ≤ (w1.heap.size + 1); omega) (.int .i64 (nC xs rate k)); rw [hwe] at hbe
      have HTe := Lib.hid (HT1.out.past hbe)
      have HDe := Lib.hid (HDR.out.past hbe)
      rw [hwe]
      clear hwe
      clear s1 c0 sf
      have s3 : we.cell? ⟨w1.heap.size + 1, 3, none⟩ = some (.int .i64 (mC xs rate (k + 1))) := HSe.out.cell 3
      have c2 : we.cell? ⟨wr.heap.size, 2, none⟩ = some (.int .i64 (cC xs rate k)) := HCe.out.cell 2
      have sf : we.frozen? ⟨w1.heap.size + 1, 3, none⟩ = false := HSe.out.frozen 3
      obtain ⟨m1, m2⟩ := HMb.out (k + 1)
      obtain ⟨m3, m4⟩ := HCb.out k
      have hms : mC xs rate (k + 1) + cC xs rate k = mC xs rate k := by rw [mC_step HTab.out k]; omega
      go_upto_region 14 with (fail)
      have HMS := Lib.hid hms; clear hms
      obtain ⟨wf, hwf⟩ : ∃ wf, we.setCell ⟨(w1.heap.size + 1), 3, none⟩ (.int .i64 (mC xs rate k)) = wf := ⟨_, rfl⟩
      have HCf := Lib.hid (HCe.out.far (p := ⟨(w1.heap.size + 1), 3, none⟩) (by show wr.heap.size ≠ (w1.heap.size + 1); omega) (.int .i64 (mC xs rate k))); rw [hwf] at HCf
      have HBf := Lib.hid (HBe.out.far (p := ⟨(w1.heap.size + 1), 3, none⟩) (by show w.heap.size ≠ (w1.heap.size + 1); omega) (.int .i64 (mC xs rate k))); rw [hwf] at HBf
      have HSf : Hid (Blk wf (w1.heap.size + 1) 101 #[.int .i64 0, .int .i64 (nC xs rate k), .int .i64 0, .int .i64 (mC xs rate k)]) := Lib.hid (by have h9 := HSe.out.set_ 3 (.int .i64 (mC xs rate k)); rw [hwf] at h9; exact h9)
      have HOf := Lib.hid (HOe.out.far (p := ⟨(w1.heap.size + 1), 3, none⟩) (by show w1.heap.size ≠ (w1.heap.size + 1); omega) (.int .i64 (mC xs rate k))); rw [hwf] at HOf
      have hbf := hbe.setCell (p := ⟨(w1.heap.size + 1), 3, none⟩) (by show w1.heap.size ≤ (w1.heap.size + 1); omega) (.int .i64 (mC xs rate k)); rw [hwf] at hbf
      have HTf := Lib.hid (HT1.out.past hbf)
      have HDf := Lib.hid (HDR.out.past hbf)
      rw [hwf]
      clear hwf
      clear s3 c2 sf
      have s1 : wf.cell? ⟨w1.heap.size + 1, 1, none⟩ = some (.int .i64 (nC xs rate k)) := HSf.out.cell 1
      have s3 : wf.cell? ⟨w1.heap.size + 1, 3, none⟩ = some (.int .i64 (mC xs rate k)) := HSf.out.cell 3
      have e1 : wf.cell? ⟨wr.heap.size, 1, none⟩ = some (.int .i64 0) := HCf.out.cell 1
      have e3 : wf.cell? ⟨wr.heap.size, 3, none⟩ = some (.int .i64 0) := HCf.out.cell 3
      have fz1 : wf.frozen? ⟨wr.heap.size, 1, none⟩ = false := HCf.out.frozen 1
      have fz3 : wf.frozen? ⟨wr.heap.size, 3, none⟩ = false := HCf.out.frozen 3
      have hne : ¬ w1.heap.size + 1 = wr.heap.size := by omega
      have hne2 : ¬ wr.heap.size = w1.heap.size + 1 := by omega
      go_region
      obtain ⟨wg, hwg⟩ : ∃ wg, ((wf.setCell ⟨wr.heap.size, 1, none⟩ (.int .i64 (nC xs rate k))).setCell ⟨wr.heap.size, 3, none⟩ (.int .i64 (mC xs rate k))).drew = wg := ⟨_, rfl⟩
      have HCg : Hid (Blk wg wr.heap.size 101 (colRow xs rate k).toArray) := Lib.hid (by have h9 := ((HCf.out.set_ 1 (.int .i64 (nC xs rate k))).set_ 3 (.int .i64 (mC xs rate k))).drew; rw [hwg] at h9; exact h9)
      have HSg := Lib.hid (((HSf.out.far (p := ⟨wr.heap.size, 1, none⟩) (by show w1.heap.size + 1 ≠ wr.heap.size; omega) (.int .i64 (nC xs rate k))).far (p := ⟨wr.heap.size, 3, none⟩) (by show w1.heap.size + 1 ≠ wr.heap.size; omega) (.int .i64 (mC xs rate k))).drew); rw [hwg] at HSg
      have HOg := Lib.hid (((HOf.out.far (p := ⟨wr.heap.size, 1, none⟩) (by show w1.heap.size ≠ wr.heap.size; omega) (.int .i64 (nC xs rate k))).far (p := ⟨wr.heap.size, 3, none⟩) (by show w1.heap.size ≠ wr.heap.size; omega) (.int .i64 (mC xs rate k))).drew); rw [hwg] at HOg
      have hbg := ((hbf.setCell (p := ⟨wr.heap.size, 1, none⟩) (by show w1.heap.size ≤ wr.heap.size; omega) (.int .i64 (nC xs rate k))).setCell (p := ⟨wr.heap.size, 3, none⟩) (by show w1.heap.size ≤ wr.heap.size; omega) (.int .i64 (mC xs rate k))).drew; rw [hwg] at hbg
      rw [hwg]
      clear hwg s1 s3 e1 e3 fz1 fz3
      have hcC := Lib.hid (Blk.agg (cs := colRow xs rate k) HCg.out 0 (colRow xs rate k) rfl)
      have hfit : k * 4 + (colRow xs rate k).length ≤ cs.size := by rw [Hcs.out]; show k * 4 + 4 ≤ top * 4; omega
      have hsg := hbg.size
      have H1c : Hid (∀ v ∈ colRow xs rate k, v.oneCell' = true) := Lib.hid (by simp [Value.oneCell'])
      go_wp2_with (first | (refine wpList_load_agg rfl 101 _ rfl ⟨wr.heap.size, 0, none⟩ rfl (colRow xs rate k) hcC.out _ Tryz.underlying101 rfl Columns.size ?_) | (refine wpList_store_agg rfl 101 _ _ rfl w1.heap.size (k * 4) (colRow xs rate k) rfl rfl 101 cs HOg.out Columns.size hfit H1c.out ?_))
      intro w9 hcs9 hg9 hs9
      have HO9 := Lib.hid hcs9; clear hcs9
      have HS9 := Lib.hid (HSg.out.grown hg9 (by intro e; injection e with e; omega))
      have hb9 : Below w1.heap.size w1 w9 := hbg.trans (below_grown hg9 (by omega))
      clear hg9 hs9
      go_wp2
      go_roundw
      case rel => exact ⟨k, by omega, by go_num, ⟨_, HO9.out, by rw [putAt_size hfit]; exact Hcs.out, FromUp.step HUp.out Hcs.out hkt⟩, HS9.out, hb9⟩
      case measure => simp [intOf] <;> omega
end Go.Proofs.YtkdfdbcpbgganaaGreatDoor
end

/- The helper functions of the laws for Policy: a copy, a comparison, marks. Each contract holds for every argument of the stated shape. -/
section
namespace Go.Proofs.YtkdfdbcpbgganaaGreatDoor
open Go.RowKit Go.Deep

structure Policy where
  kind : Int
  age : Int
  years : Int
  sum : Int
  load : Int
def Policy.row (r : Policy) : List Value := [.int .i64 r.kind, .int .i64 r.age, .int .i64 r.years, .int .i64 r.sum, .int .i64 r.load]
def policyRows (xs : List Policy) : List (List Value) := xs.map Policy.row
theorem policyRows_get {xs : List Policy} {k : Nat} {x : Policy} (h : xs[k]? = some x) : (policyRows xs)[k]? = some x.row := by simp [policyRows, h]
theorem policyRows_length (xs : List Policy) : (policyRows xs).length = xs.length := by simp [policyRows]
theorem policyRows_all (xs : List Policy) : ∀ r ∈ policyRows xs, r.length = 5 := by
  intro r hr; obtain ⟨x, _, rfl⟩ := List.mem_map.1 hr; rfl
theorem Policy.oneCell (x : Policy) : ∀ v ∈ x.row, v.oneCell' = true := by simp [Policy.row, Value.oneCell']
theorem Policy.info : (Tryz.prog.info? 42).map (fun i => (i.zero, i.size, i.bytes)) = some (some (.agg #[.int .i64 0, .int .i64 0, .int .i64 0, .int .i64 0, .int .i64 0]), 5, 40) := by kernel_rfl
theorem Policy.size : (Tryz.prog.info? 42).map (·.size) = some 5 := by kernel_rfl
theorem Policy.cells {x : Policy} {w : World} {p : Addr} (hc : ∀ (j : Nat) (v : Value), x.row[j]? = some v → w.cell? (p.add j) = some v) : w.cell? p = some (.int .i64 x.kind) ∧ w.cell? ⟨p.block, p.off + 1, none⟩ = some (.int .i64 x.age) ∧ w.cell? ⟨p.block, p.off + 2, none⟩ = some (.int .i64 x.years) ∧ w.cell? ⟨p.block, p.off + 3, none⟩ = some (.int .i64 x.sum) ∧ w.cell? ⟨p.block, p.off + 4, none⟩ = some (.int .i64 x.load) := by
  refine ⟨by have := hc 0 _ rfl; rwa [Addr.add_zero'] at this, hc 1 _ rfl, hc 2 _ rfl, hc 3 _ rfl, hc 4 _ rfl⟩
def Policy.fits (x : Policy) : Prop := In64 x.kind ∧ In64 x.age ∧ In64 x.years ∧ In64 x.sum ∧ In64 x.load
theorem Policy.of_nums : ∀ (rows : List (List Int)), (∀ r ∈ rows, r.length = 5 ∧ ∀ z ∈ r, In64 z) → ∃ xs : List Policy, xs.length = rows.length ∧ policyRows xs = numRows rows ∧ ∀ x ∈ xs, x.fits
  | [], _ => ⟨[], rfl, rfl, by simp⟩
  | q :: rest, h => by
    obtain ⟨xs, hl, hr, hf⟩ := Policy.of_nums rest fun r hr => h r (by simp [hr])
    obtain ⟨hq, hz⟩ := h q (by simp)
    match q, hq with
    | [z0, z1, z2, z3, z4], _ =>
      refine ⟨⟨z0, z1, z2, z3, z4⟩ :: xs, by simp [hl], by rw [policyRows, List.map_cons, numRows, List.map_cons, ← numRows, ← hr]; rfl, fun x hx => ?_⟩
      rcases List.mem_cons.1 hx with rfl | hx
      · exact ⟨hz z0 (by simp), hz z1 (by simp), hz z2 (by simp), hz z3 (by simp), hz z4 (by simp)⟩
      · exact hf x hx
theorem Policy.of_num {zs : List Int} (hl : zs.length = 5) (hz : ∀ z ∈ zs, In64 z) : ∃ x : Policy, (zs.map (Value.int .i64)).toArray = x.row.toArray ∧ x.fits := by
  match zs, hl with
  | [z0, z1, z2, z3, z4], _ => exact ⟨⟨z0, z1, z2, z3, z4⟩, rfl, hz z0 (by simp), hz z1 (by simp), hz z2 (by simp), hz z3 (by simp), hz z4 (by simp)⟩









end Go.Proofs.YtkdfdbcpbgganaaGreatDoor
end

/- The helper functions of the laws for Holding: a copy, a comparison, marks. Each contract holds for every argument of the stated shape. -/
section
namespace Go.Proofs.YtkdfdbcpbgganaaGreatDoor
open Go.RowKit Go.Deep

structure Holding where
  kind : Int
  age : Int
  years : Int
  sum : Int
  load : Int
  year : Int
  count : Int
def Holding.row (r : Holding) : List Value := [.int .i64 r.kind, .int .i64 r.age, .int .i64 r.years, .int .i64 r.sum, .int .i64 r.load, .int .i64 r.year, .int .i64 r.count]
def holdingRows (xs : List Holding) : List (List Value) := xs.map Holding.row
theorem holdingRows_get {xs : List Holding} {k : Nat} {x : Holding} (h : xs[k]? = some x) : (holdingRows xs)[k]? = some x.row := by simp [holdingRows, h]
theorem holdingRows_length (xs : List Holding) : (holdingRows xs).length = xs.length := by simp [holdingRows]
theorem holdingRows_all (xs : List Holding) : ∀ r ∈ holdingRows xs, r.length = 7 := by
  intro r hr; obtain ⟨x, _, rfl⟩ := List.mem_map.1 hr; rfl
theorem Holding.oneCell (x : Holding) : ∀ v ∈ x.row, v.oneCell' = true := by simp [Holding.row, Value.oneCell']
theorem Holding.cells {x : Holding} {w : World} {p : Addr} (hc : ∀ (j : Nat) (v : Value), x.row[j]? = some v → w.cell? (p.add j) = some v) : w.cell? p = some (.int .i64 x.kind) ∧ w.cell? ⟨p.block, p.off + 1, none⟩ = some (.int .i64 x.age) ∧ w.cell? ⟨p.block, p.off + 2, none⟩ = some (.int .i64 x.years) ∧ w.cell? ⟨p.block, p.off + 3, none⟩ = some (.int .i64 x.sum) ∧ w.cell? ⟨p.block, p.off + 4, none⟩ = some (.int .i64 x.load) ∧ w.cell? ⟨p.block, p.off + 5, none⟩ = some (.int .i64 x.year) ∧ w.cell? ⟨p.block, p.off + 6, none⟩ = some (.int .i64 x.count) := by
  refine ⟨by have := hc 0 _ rfl; rwa [Addr.add_zero'] at this, hc 1 _ rfl, hc 2 _ rfl, hc 3 _ rfl, hc 4 _ rfl, hc 5 _ rfl, hc 6 _ rfl⟩
def Holding.fits (x : Holding) : Prop := In64 x.kind ∧ In64 x.age ∧ In64 x.years ∧ In64 x.sum ∧ In64 x.load ∧ In64 x.year ∧ In64 x.count
theorem Holding.of_nums : ∀ (rows : List (List Int)), (∀ r ∈ rows, r.length = 7 ∧ ∀ z ∈ r, In64 z) → ∃ xs : List Holding, xs.length = rows.length ∧ holdingRows xs = numRows rows ∧ ∀ x ∈ xs, x.fits
  | [], _ => ⟨[], rfl, rfl, by simp⟩
  | q :: rest, h => by
    obtain ⟨xs, hl, hr, hf⟩ := Holding.of_nums rest fun r hr => h r (by simp [hr])
    obtain ⟨hq, hz⟩ := h q (by simp)
    match q, hq with
    | [z0, z1, z2, z3, z4, z5, z6], _ =>
      refine ⟨⟨z0, z1, z2, z3, z4, z5, z6⟩ :: xs, by simp [hl], by rw [holdingRows, List.map_cons, numRows, List.map_cons, ← numRows, ← hr]; rfl, fun x hx => ?_⟩
      rcases List.mem_cons.1 hx with rfl | hx
      · exact ⟨hz z0 (by simp), hz z1 (by simp), hz z2 (by simp), hz z3 (by simp), hz z4 (by simp), hz z5 (by simp), hz z6 (by simp)⟩
      · exact hf x hx
theorem Holding.of_num {zs : List Int} (hl : zs.length = 7) (hz : ∀ z ∈ zs, In64 z) : ∃ x : Holding, (zs.map (Value.int .i64)).toArray = x.row.toArray ∧ x.fits := by
  match zs, hl with
  | [z0, z1, z2, z3, z4, z5, z6], _ => exact ⟨⟨z0, z1, z2, z3, z4, z5, z6⟩, rfl, hz z0 (by simp), hz z1 (by simp), hz z2 (by simp), hz z3 (by simp), hz z4 (by simp), hz z5 (by simp), hz z6 (by simp)⟩









end Go.Proofs.YtkdfdbcpbgganaaGreatDoor
end

/- Policies, their premiums and reserves: plain functions and their laws. No program. -/
section
namespace Go.Proofs.YtkdfdbcpbgganaaGreatDoor
open Go.RowKit Go.BigFrame

structure Bas where
  first : Int
  lives : List Int
  rate : Int
def basisB (b : Bas) : Bool := tableB b.first b.lives && inR b.rate 0 200
def Bas.ix (b : Bas) (age : Int) : Nat := (age - b.first).toNat
def Bas.d (b : Bas) (age : Int) : Int := dC b.lives b.rate (b.ix age)
def Bas.top (b : Bas) (kind age n : Int) : Int := topF b.lives b.rate kind (b.ix age) n.toNat
def Bas.base (b : Bas) (kind age n : Int) : Int := baseF b.lives b.rate kind (b.ix age) n.toNat
def Bas.last (b : Bas) : Int := b.first + (b.lives.length : Int) - 1
/-- the arguments of an assurance, but for the table -/
def assurB (b : Bas) (kind age n sum : Int) : Bool :=
  inR kind 0 3 && (inR b.rate 0 200 && (inR age b.first 150 && (inR sum 1 100000000 && (inR n 0 120 && (decide (age + n ≤ 150) && (decide (n = 0) == decide (kind = 0)))))))
def bandB (b : Bas) (age n : Int) : Bool := (List.range (max 1 n).toNat).all fun i => decide (b.d (age + i) ≠ 0)
def polB (b : Bas) (p : Policy) : Bool := basisB b && (assurB b p.kind p.age p.years p.sum && (inR p.load 0 1000 && bandB b p.age p.years))
def durP (b : Bas) (p : Policy) : Int := if p.kind = 0 then b.last - p.age else p.years
def resCode (b : Bas) (p : Policy) (k : Int) : Int := if polB b p = true then (if inR k 0 (durP b p - 1) = true then (if b.d (p.age + k) = 0 then 5 else 0) else 2) else 1
/-- a * b / c rounded up -/
def upP (a b c : Int) : Int := a * b / c + (if 0 < a * b % c then 1 else 0)
def netP (b : Bas) (p : Policy) : Int := upP p.sum (b.top p.kind p.age p.years) (b.base p.kind p.age p.years)
def officeP (b : Bas) (p : Policy) : Int := netP b p + ceilDiv (netP b p * p.load) 1000
def leftP (p : Policy) (k : Int) : Int := if p.kind = 0 then 0 else p.years - k
def fwdP (s t n v d : Int) : Int × Int := ((s * t - n * v) / d, (s * t - n * v) % d)
def roundP (x : Int × Int) : Int := max 0 (x.1 + (if 0 < x.2 then 1 else 0))
def partT (b : Bas) (p : Policy) (k : Int) : Int := b.top p.kind (p.age + k) (leftP p k)
def partB (b : Bas) (p : Policy) (k : Int) : Int := b.base p.kind (p.age + k) (leftP p k)
def partD (b : Bas) (p : Policy) (k : Int) : Int := b.d (p.age + k)
def resAt (b : Bas) (p : Policy) (k : Int) : Int := roundP (fwdP p.sum (partT b p k) (netP b p) (partB b p k) (partD b p k))

structure BasOk (b : Bas) : Prop where
  tab : TabOk b.first b.lives
  rate0 : 0 ≤ b.rate
  rate1 : b.rate ≤ 200
theorem basis_ok {b : Bas} (h : basisB b = true) : BasOk b := by
  simp only [basisB, Bool.and_eq_true, inR_true] at h
  exact ⟨table_ok h.1, h.2.1, h.2.2⟩
structure PolOk (b : Bas) (p : Policy) : Prop extends BasOk b where
  kind0 : 0 ≤ p.kind
  kind1 : p.kind ≤ 3
  age0 : b.first ≤ p.age
  age1 : p.age ≤ 150
  sum0 : 1 ≤ p.sum
  sum1 : p.sum ≤ 100000000
  yrs0 : 0 ≤ p.years
  yrs1 : p.years ≤ 120
  end1 : p.age + p.years ≤ 150
  zero : p.years = 0 ↔ p.kind = 0
  load0 : 0 ≤ p.load
  load1 : p.load ≤ 1000
  band : ∀ i : Nat, (i : Int) < max 1 p.years → b.d (p.age + i) ≠ 0
theorem pol_ok {b : Bas} {p : Policy} (h : polB b p = true) : PolOk b p := by
  simp only [polB, assurB, bandB, Bool.and_eq_true, inR_true, decide_eq_true_eq, List.all_eq_true, List.mem_range, beq_iff_eq, decide_eq_decide] at h
  obtain ⟨h1, ⟨⟨k0, k1⟩, _, ⟨a0, a1⟩, ⟨s0, s1⟩, ⟨y0, y1⟩, e1, z⟩, ⟨l0, l1⟩, hb⟩ := h
  exact { toBasOk := basis_ok h1, kind0 := k0, kind1 := k1, age0 := a0, age1 := a1, sum0 := s0, sum1 := s1, yrs0 := y0, yrs1 := y1, end1 := e1, zero := z, load0 := l0, load1 := l1, band := fun i hi => hb i (by omega) }
section
variable {b : Bas} (B : BasOk b)
include B
theorem d_bound (age : Int) : 0 ≤ b.d age ∧ b.d age ≤ 1000000000000000 := dC_bound B.tab B.rate0 _
theorem top_bound (kind age n : Int) : 0 ≤ b.top kind age n ∧ b.top kind age n ≤ b.d age := topF_bound B.tab B.rate0 _ _ _
theorem base_bound (kind age n : Int) (hn : n ≤ 120) : 0 ≤ b.base kind age n ∧ b.base kind age n ≤ 120 * b.d age := baseF_bound B.tab B.rate0 _ _ _ (by omega)
theorem base_pos (kind age n : Int) (h : kind = 0 ∨ 1 ≤ n) : b.d age ≤ b.base kind age n := baseF_pos B.tab B.rate0 _ _ _ (by rcases h with h | h; exact .inl h; exact .inr (by omega))
end
theorem mul_div_le {a x c m : Int} (ha : 0 ≤ a) (hx : 0 ≤ x) (hc : 1 ≤ c) (h : x ≤ m * c) : 0 ≤ a * x / c ∧ a * x / c ≤ a * m := by
  refine ⟨Int.ediv_nonneg (Int.mul_nonneg ha hx) (by omega), ?_⟩
  have h1 : a * x ≤ a * (m * c) := Int.mul_le_mul_of_nonneg_left h ha
  have h2 : a * x / c ≤ a * (m * c) / c := Int.ediv_le_ediv (by omega) h1
  rw [← Int.mul_assoc, Int.mul_ediv_cancel _ (by omega)] at h2
  exact h2
theorem up_le {a x c : Int} (ha : 0 ≤ a) (hx : 0 ≤ x) (hc : 1 ≤ c) (h : x ≤ c) : 0 ≤ upP a x c ∧ upP a x c ≤ a := by
  have h1 := mul_div_le (m := 1) ha hx hc (by omega)
  rw [Int.mul_one] at h1
  unfold upP
  split
  · rename_i hr
    have h2 := Int.mul_ediv_add_emod (a * x) c
    have h3 : a * x ≤ a * c := Int.mul_le_mul_of_nonneg_left h ha
    have h4 : a * x / c < a := by
      rcases Int.lt_or_le (a * x / c) a with h5 | h5
      · exact h5
      · have h6 : c * a ≤ c * (a * x / c) := Int.mul_le_mul_of_nonneg_left h5 (by omega)
        rw [Int.mul_comm c a] at h6
        omega
    omega
  · omega
theorem ceil_bound {x : Int} (h : 0 ≤ x) : 0 ≤ ceilDiv x 1000 ∧ ceilDiv x 1000 ≤ x := by unfold ceilDiv; omega
section
variable {b : Bas} {p : Policy} (P : PolOk b p)
include P
theorem d_age : 1 ≤ b.d p.age := by
  have h1 := P.band 0 (by omega)
  have h2 := d_bound P.toBasOk p.age
  simp only [Int.natCast_zero, Int.add_zero] at h1
  omega
theorem kind_or : p.kind = 0 ∨ 1 ≤ p.years := by
  have := P.zero; have := P.yrs0
  by_cases h : p.kind = 0
  · exact .inl h
  · exact .inr (by omega)
theorem net_base : 1 ≤ b.base p.kind p.age p.years := by
  have := base_pos P.toBasOk p.kind p.age p.years (kind_or P)
  have := d_age P
  omega
theorem net_bound : 0 ≤ netP b p ∧ netP b p ≤ 100000000 := by
  have h1 := top_bound P.toBasOk p.kind p.age p.years
  have h2 := base_pos P.toBasOk p.kind p.age p.years (kind_or P)
  have h3 := d_age P
  have h4 := up_le (a := p.sum) (x := b.top p.kind p.age p.years) (c := b.base p.kind p.age p.years) (by have := P.sum0; omega) h1.1 (by omega) (by omega)
  have := P.sum1
  unfold netP
  omega
theorem office_bound : 0 ≤ netP b p * p.load ∧ netP b p * p.load ≤ 100000000000 ∧ netP b p ≤ officeP b p ∧ officeP b p ≤ 200000000 := by
  have h1 := net_bound P
  have h2 : netP b p * p.load ≤ 100000000 * 1000 := Int.mul_le_mul h1.2 P.load1 P.load0 (by omega)
  have h3 := Int.mul_nonneg h1.1 P.load0
  unfold officeP ceilDiv
  omega
theorem dur_bound : durP b p ≤ 150 := by
  have := P.tab.top; have := P.age0; have := P.tab.first0; have := P.yrs1
  unfold durP Bas.last
  split <;> omega
theorem left_bound {k : Int} (hk : 0 ≤ k) : leftP p k ≤ 120 := by
  have := P.yrs1
  unfold leftP
  split <;> omega
end
/-- a year of a policy in which a reserve can be told -/
structure YearOk (b : Bas) (p : Policy) (k : Int) : Prop extends PolOk b p where
  k0 : 0 ≤ k
  k1 : k ≤ durP b p - 1
  d1 : 1 ≤ b.d (p.age + k)
theorem year_ok {b : Bas} {p : Policy} {k : Int} (h : resCode b p k = 0) : YearOk b p k := by
  unfold resCode at h
  by_cases h1 : polB b p = true
  · rw [if_pos h1] at h
    by_cases h2 : inR k 0 (durP b p - 1) = true
    · rw [if_pos h2] at h
      by_cases h3 : b.d (p.age + k) = 0
      · rw [if_pos h3] at h; omega
      · have h4 := inR_true.1 h2
        have h5 := d_bound (pol_ok h1).toBasOk (p.age + k)
        exact { toPolOk := pol_ok h1, k0 := h4.1, k1 := h4.2, d1 := by omega }
    · rw [if_neg h2] at h; omega
  · rw [if_neg h1] at h; omega
/-- the parts of a reserve, whatever the basis: sizes that fit -/
structure PartOk (s t n v d : Int) : Prop where
  s0 : 0 ≤ s
  s1 : s ≤ 100000000
  n0 : 0 ≤ n
  n1 : n ≤ 100000000
  t0 : 0 ≤ t
  t1 : t ≤ d
  v0 : 0 ≤ v
  v1 : v ≤ 120 * d
  d0 : 1 ≤ d
  d1 : d ≤ 1000000000000000
theorem part_ok {b : Bas} {p : Policy} {k n : Int} (Y : YearOk b p k) (hn : 0 ≤ n ∧ n ≤ 100000000) : PartOk p.sum (partT b p k) n (partB b p k) (partD b p k) := by
  have h1 := top_bound Y.toBasOk p.kind (p.age + k) (leftP p k)
  have h2 := base_bound Y.toBasOk p.kind (p.age + k) (leftP p k) (left_bound Y.toPolOk Y.k0)
  have h3 := d_bound Y.toBasOk (p.age + k)
  exact { s0 := by have := Y.sum0; omega, s1 := Y.sum1, n0 := hn.1, n1 := hn.2, t0 := h1.1, t1 := h1.2, v0 := h2.1, v1 := h2.2, d0 := Y.d1, d1 := h3.2 }
section
variable {s t n v d : Int} (K : PartOk s t n v d)
include K
theorem part_quo : (0 ≤ s * t / d ∧ s * t / d ≤ 100000000) ∧ (0 ≤ n * v / d ∧ n * v / d ≤ 12000000000) := by
  have h1 := mul_div_le (m := 1) K.s0 K.t0 K.d0 (by have := K.t1; omega)
  have h2 := mul_div_le (m := 120) K.n0 K.v0 K.d0 K.v1
  have := K.s1; have := K.n1
  omega
theorem part_rest : (0 ≤ s * t % d ∧ s * t % d < d) ∧ (0 ≤ n * v % d ∧ n * v % d < d) := by
  have h0 := K.d0
  exact ⟨⟨Int.emod_nonneg _ (by omega), Int.emod_lt_of_pos _ (by omega)⟩, ⟨Int.emod_nonneg _ (by omega), Int.emod_lt_of_pos _ (by omega)⟩⟩
/-- the program's way to the forward reserve -/
theorem fwd_low (h : s * t % d < n * v % d) : fwdP s t n v d = (s * t / d - n * v / d - 1, s * t % d - n * v % d + d) := by
  have h1 := Int.mul_ediv_add_emod (s * t) d
  have h2 := Int.mul_ediv_add_emod (n * v) d
  have h3 := part_rest K
  have e : s * t - n * v = (s * t % d - n * v % d + d) + d * (s * t / d - n * v / d - 1) := by rw [Int.mul_sub, Int.mul_sub]; omega
  unfold fwdP
  have h4 : s * t % d - n * v % d + d < d := by omega
  have h5 : 0 ≤ s * t % d - n * v % d + d := by omega
  rw [e, Int.add_mul_ediv_left _ _ (by have := K.d0; omega), Int.ediv_eq_zero_of_lt h5 h4, Int.add_mul_emod_self_left, Int.emod_eq_of_lt h5 h4, Int.zero_add]
theorem fwd_high (h : ¬ s * t % d < n * v % d) : fwdP s t n v d = (s * t / d - n * v / d, s * t % d - n * v % d) := by
  have h1 := Int.mul_ediv_add_emod (s * t) d
  have h2 := Int.mul_ediv_add_emod (n * v) d
  have h3 := part_rest K
  have e : s * t - n * v = (s * t % d - n * v % d) + d * (s * t / d - n * v / d) := by rw [Int.mul_sub]; omega
  unfold fwdP
  have h4 : s * t % d - n * v % d < d := by omega
  have h5 : 0 ≤ s * t % d - n * v % d := by omega
  rw [e, Int.add_mul_ediv_left _ _ (by have := K.d0; omega), Int.ediv_eq_zero_of_lt h5 h4, Int.add_mul_emod_self_left, Int.emod_eq_of_lt h5 h4, Int.zero_add]
theorem fwd_bound : (-12000000001 ≤ (fwdP s t n v d).1 ∧ (fwdP s t n v d).1 ≤ 100000000) ∧ (0 ≤ (fwdP s t n v d).2 ∧ (fwdP s t n v d).2 < d) := by
  have h1 := part_quo K
  have h2 := part_rest K
  have h0 := K.d0
  by_cases h : s * t % d < n * v % d
  · rw [fwd_low K h]; simp only; omega
  · rw [fwd_high K h]; simp only; omega
theorem round_bound : 0 ≤ roundP (fwdP s t n v d) ∧ roundP (fwdP s t n v d) ≤ 100000001 := by
  have h := fwd_bound K
  unfold roundP
  split <;> omega
end
theorem res_bound {b : Bas} {p : Policy} {k : Int} (Y : YearOk b p k) : 0 ≤ resAt b p k ∧ resAt b p k ≤ 100000001 := round_bound (part_ok Y (net_bound Y.toPolOk))
end Go.Proofs.YtkdfdbcpbgganaaGreatDoor
end
