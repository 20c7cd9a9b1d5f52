/- Portfolios and what is reserved for them: the reference's contracts. -/
import Derived.Test.YthcnkcoplgdlkaaPolS2
import Derived.Test.YthcnkcoplgdlkaaStHolding
namespace Go.Proofs.Ythcnkcoplgdlkaa
open Go.RowKit Go.BigFrame

def Holding.pol (h : Holding) : Policy := ⟨h.kind, h.age, h.years, h.sum, h.load⟩
def holdB (b : Bas) (h : Holding) : Bool := inR h.count 0 1000000 && (resCode b h.pol h.year == 0)
def portB (b : Bas) (xs : List Holding) : Bool := basisB b && (decide (xs.length ≤ 30) && xs.all (holdB b))
theorem hold_ok {b : Bas} {h : Holding} (H : holdB b h = true) : (0 ≤ h.count ∧ h.count ≤ 1000000) ∧ YearOk b h.pol h.year := by
  simp only [holdB, Bool.and_eq_true, inR_true, beq_iff_eq] at H
  exact ⟨H.1, year_ok H.2⟩
theorem port_ok {b : Bas} {xs : List Holding} (H : portB b xs = true) : BasOk b ∧ xs.length ≤ 30 ∧ ∀ h ∈ xs, (0 ≤ h.count ∧ h.count ≤ 1000000) ∧ YearOk b h.pol h.year := by
  simp only [portB, Bool.and_eq_true, decide_eq_true_eq, List.all_eq_true] at H
  exact ⟨basis_ok H.1, H.2.1, fun h hh => hold_ok (H.2.2 h hh)⟩
theorem dur_low {b : Bas} {p : Policy} (P : PolOk b p) : -300 ≤ durP b p := by
  have := P.tab.first0; have := P.age1; have := P.tab.len0; have := P.yrs0
  unfold durP Bas.last
  split <;> omega
theorem Holding.pol_cells {h : Holding} {w : World} {p : Addr} (hc : ∀ (j : Nat) (v : Value), h.row[j]? = some v → w.cell? (p.add j) = some v) : ∀ (j : Nat) (v : Value), h.pol.row[j]? = some v → w.cell? (p.add j) = some v := by
  intro j v hv
  refine hc j v ?_
  have e : h.pol.row = h.row.take 5 := rfl
  rw [e, List.getElem?_take] at hv
  split at hv
  · exact hv
  · cases hv
theorem Holding.fits_pol {h : Holding} (f : h.fits) : h.pol.fits ∧ In64 h.year ∧ In64 h.count := ⟨⟨f.1, f.2.1, f.2.2.1, f.2.2.2.1, f.2.2.2.2.1⟩, f.2.2.2.2.2.1, f.2.2.2.2.2.2⟩


set_option maxHeartbeats 4000000 in
theorem spec_l11Code_any (b : Bas) (A : Option Addr) (n cap : Nat) (p : Policy) (k : Int) (w : World) (hB : BasT w A n cap b) (hp : p.fits) (_hk : In64 k) :
    Calls Try.prog 112 #[.agg #[.int .i64 b.first, .slice A n cap, .int .i64 b.rate], .agg p.row.toArray, .int .i64 k] w fun e w' => e = .returned (.int .i64 (resCode b p k)) ∧ Below w.heap.size w w' := by
  have hbw := boxes_below (w := w) (X := b.row A n cap) (Y := p.row) (tx := 32) (ty := 44)
  have HB := Lib.hid ((Blk.new w 32 (b.row A n cap).toArray).alloc (.cells p.row.toArray 44))
  have HP := Lib.hid (Blk.new (w.alloc (.cells (b.row A n cap).toArray 32)) 44 p.row.toArray)
  rw [World.size_alloc] at HP
  unfold Bas.row Policy.row at *
  have HBT := Lib.hid (hB.past hbw); clear hB
  cases h1 : polB b p
  · have Q := Lib.hid (show resCode b p k = 1 by simp [resCode, h1])
    go_enter Try.func112, Try.ntmps112
    go_wp2_with fail
    refine (spec_IsPolicy_any b A n cap p _ HBT.out hp).mono ?_
    rw [h1]
    rintro e w1 ⟨rfl, hb1⟩
    go_wp2
    go_ret
    exact ⟨by rw [Q.out]; rfl, hbw.trans (hb1.mono hbw.size)⟩
  have HPO := Lib.hid (pol_ok h1)
  have dl := dur_low HPO.out
  have dh := dur_bound HPO.out
  have a1 := HPO.out.age0; have a2 := HPO.out.age1; have t0 := HPO.out.tab.first0
  cases h2 : inR k 0 (durP b p - 1)
  · have Q := Lib.hid (show resCode b p k = 2 by simp [resCode, h1, h2])
    go_enter Try.func112, Try.ntmps112
    go_wp2_with fail
    refine (spec_IsPolicy_any b A n cap p _ HBT.out hp).mono ?_
    rw [h1]
    rintro e w1 ⟨rfl, hb1⟩
    have HB1 := Lib.hid (HB.out.below' hb1)
    have HP1 := Lib.hid (HP.out.below' hb1)
    have hcT := Lib.hid (Blk.agg (cs := [.int .i64 b.first, .slice A n cap, .int .i64 b.rate]) HB1.out 0 [.int .i64 b.first, .slice A n cap] rfl)
    have hcB := Lib.hid (Blk.agg (cs := [.int .i64 b.first, .slice A n cap, .int .i64 b.rate]) HB1.out 0 [.int .i64 b.first, .slice A n cap, .int .i64 b.rate] rfl)
    have hcP := Lib.hid (Blk.agg (cs := [.int .i64 p.kind, .int .i64 p.age, .int .i64 p.years, .int .i64 p.sum, .int .i64 p.load]) HP1.out 0 [.int .i64 p.kind, .int .i64 p.age, .int .i64 p.years, .int .i64 p.sum, .int .i64 p.load] rfl)
    have HBT1 := Lib.hid (HBT.out.past hb1)
    go_wp2_with (first | (refine wpList_load_agg rfl 32 _ rfl ⟨w.heap.size, 0, none⟩ rfl [.int .i64 b.first, .slice A n cap, .int .i64 b.rate] hcB.out _ Try.underlying32 rfl Bas.size ?_) | (refine wpList_load_agg rfl 44 _ rfl ⟨w.heap.size + 1, 0, none⟩ rfl [.int .i64 p.kind, .int .i64 p.age, .int .i64 p.years, .int .i64 p.sum, .int .i64 p.load] hcP.out _ Try.underlying44 rfl Policy.size ?_))
    refine (spec_l10Duration_any b A n cap p _ HBT1.out HPO.out).mono ?_
    rintro e w2 ⟨rfl, hb2⟩
    go_wp2_with (first | (go_at_call 122; refine (spec_l01In_any _ _ _ _).mono ?_; rintro e w' ⟨rfl, rfl⟩))
    go_ret
    exact ⟨by rw [Q.out]; rfl, hbw.trans ((below_step hb1 hb2).mono hbw.size)⟩
  obtain ⟨k0, k1⟩ := inR_true.1 h2
  have QD := Lib.hid (show b.d (p.age + k) = dC b.lives b.rate (p.age + k - b.first).toNat from rfl)
  go_enter Try.func112, Try.ntmps112
  go_wp2_with fail
  refine (spec_IsPolicy_any b A n cap p _ HBT.out hp).mono ?_
  rw [h1]
  rintro e w1 ⟨rfl, hb1⟩
  have HB1 := Lib.hid (HB.out.below' hb1)
  have HP1 := Lib.hid (HP.out.below' hb1)
  have hcT := Lib.hid (Blk.agg (cs := [.int .i64 b.first, .slice A n cap, .int .i64 b.rate]) HB1.out 0 [.int .i64 b.first, .slice A n cap] rfl)
  have hcB := Lib.hid (Blk.agg (cs := [.int .i64 b.first, .slice A n cap, .int .i64 b.rate]) HB1.out 0 [.int .i64 b.first, .slice A n cap, .int .i64 b.rate] rfl)
  have hcP := Lib.hid (Blk.agg (cs := [.int .i64 p.kind, .int .i64 p.age, .int .i64 p.years, .int .i64 p.sum, .int .i64 p.load]) HP1.out 0 [.int .i64 p.kind, .int .i64 p.age, .int .i64 p.years, .int .i64 p.sum, .int .i64 p.load] rfl)
  have HBT1 := Lib.hid (HBT.out.past hb1)
  go_wp2_with (first | (refine wpList_load_agg rfl 32 _ rfl ⟨w.heap.size, 0, none⟩ rfl [.int .i64 b.first, .slice A n cap, .int .i64 b.rate] hcB.out _ Try.underlying32 rfl Bas.size ?_) | (refine wpList_load_agg rfl 44 _ rfl ⟨w.heap.size + 1, 0, none⟩ rfl [.int .i64 p.kind, .int .i64 p.age, .int .i64 p.years, .int .i64 p.sum, .int .i64 p.load] hcP.out _ Try.underlying44 rfl Policy.size ?_))
  clear hcT hcB hcP
  refine (spec_l10Duration_any b A n cap p _ HBT1.out HPO.out).mono ?_
  rintro e w2 ⟨rfl, hb2⟩
  have HB2 := Lib.hid (HB1.out.below' hb2)
  have HP2 := Lib.hid (HP1.out.below' hb2)
  have hcT := Lib.hid (Blk.agg (cs := [.int .i64 b.first, .slice A n cap, .int .i64 b.rate]) HB2.out 0 [.int .i64 b.first, .slice A n cap] rfl)
  have hcB := Lib.hid (Blk.agg (cs := [.int .i64 b.first, .slice A n cap, .int .i64 b.rate]) HB2.out 0 [.int .i64 b.first, .slice A n cap, .int .i64 b.rate] rfl)
  have hcP := Lib.hid (Blk.agg (cs := [.int .i64 p.kind, .int .i64 p.age, .int .i64 p.years, .int .i64 p.sum, .int .i64 p.load]) HP2.out 0 [.int .i64 p.kind, .int .i64 p.age, .int .i64 p.years, .int .i64 p.sum, .int .i64 p.load] rfl)
  have cb2 : w2.cell? ⟨w.heap.size, 2, none⟩ = some (.int .i64 b.rate) := HB2.out.cell 2
  have cp1 : w2.cell? ⟨w.heap.size + 1, 1, none⟩ = some (.int .i64 p.age) := HP2.out.cell 1
  have HBT2 := Lib.hid (HBT1.out.past hb2)
  go_wp2_with (first | (go_at_call 122; refine (spec_l01In_any _ _ _ _).mono ?_; rintro e w' ⟨rfl, rfl⟩) | (refine wpList_load_agg rfl 30 _ rfl ⟨w.heap.size, 0, none⟩ rfl [.int .i64 b.first, .slice A n cap] hcT.out _ Try.underlying30 rfl Tab.size ?_))
  refine (spec_l05D_any b.first A n cap b.lives b.rate (p.age + k) _ HBT2.out.lives HPO.out.tab ⟨HPO.out.rate0, HPO.out.rate1⟩ ⟨by omega, by omega⟩).mono ?_
  rw [← QD.out]
  by_cases hd : b.d (p.age + k) = 0
  · have Q := Lib.hid (show resCode b p k = 5 by simp [resCode, h1, h2, hd])
    have HD := Lib.hid hd; clear hd
    rw [HD.out]
    rintro e w3 ⟨rfl, hb3⟩
    go_wp2
    go_ret
    exact ⟨by rw [Q.out]; rfl, hbw.trans ((below_step (below_step hb1 hb2) hb3).mono hbw.size)⟩
  · have Q := Lib.hid (show resCode b p k = 0 by simp [resCode, h1, h2, hd])
    rintro e w3 ⟨rfl, hb3⟩
    go_wp2
    go_ret
    exact ⟨by rw [Q.out]; rfl, hbw.trans ((below_step (below_step hb1 hb2) hb3).mono hbw.size)⟩


set_option maxHeartbeats 4000000 in
theorem spec_IsPortfolio_any (b : Bas) (A : Option Addr) (n cap : Nat) (H : Option Addr) (m hcap : Nat) (xs : List Holding) (w : World) (hB : BasT w A n cap b) (hl : xs.length = m) (hm : m ≤ 1048576) (hX : Rd w w.heap.size H 7 (holdingRows xs)) (hf : ∀ x ∈ xs, x.fits) :
    Calls Try.prog 121 #[.agg #[.int .i64 b.first, .slice A n cap, .int .i64 b.rate], .slice H m hcap] w fun e w' => e = .returned (.bool (portB b xs)) ∧ Below w.heap.size w w' := by
  have hbw : Below w.heap.size w (w.alloc (.cells #[.int .i64 b.first, .slice A n cap, .int .i64 b.rate] 32)) := (Below.refl _ w).alloc (Nat.le_refl _) _
  have HB := Lib.hid (Blk.new w 32 #[.int .i64 b.first, .slice A n cap, .int .i64 b.rate])
  have HBT := Lib.hid (hB.past hbw); clear hB
  have HX := Lib.hid hX; clear hX
  have HL := Lib.hid hl; clear hl
  have HF := Lib.hid hf; clear hf
  go_enter Try.func121, Try.ntmps121
  go_wp2
  go_loopw [5] (fun i wr => ∃ k : Nat, k ≤ m ∧ i = .int .i64 k ∧ Hid ((xs.take k).all (holdB b) = true) ∧ Below (w.heap.size + 1) (w.alloc (.cells #[.int .i64 b.first, .slice A n cap, .int .i64 b.rate] 32)) wr) (fun i _ => m - (intOf i).toNat)
  case atStart => exact ⟨0, by omega, rfl, Lib.hid rfl, Below.refl _ _⟩
  case round =>
    obtain ⟨k, hk, rfl, hall, hb⟩ := hrel
    have HB1 := Lib.hid (HB.out.below hb (by omega))
    have HBT1 := Lib.hid (HBT.out.past (hb.mono (by simp)))
    have hbr : Below w.heap.size w wr := hbw.trans (hb.mono (by omega))
    by_cases hlt : k < m
    · obtain ⟨x, hx⟩ := get_of_lt (xs := xs) (k := k) (by rw [HL.out]; exact hlt)
      obtain ⟨ad, rfl, had, _, hc⟩ := (HX.out.below hbr).at' (holdingRows_get hx)
      have Hx := Lib.hid hx; clear hx
      have hfx := Holding.fits_pol (HF.out x (List.mem_of_getElem? Hx.out))
      have Hfx := Lib.hid hfx; clear hfx
      have Hpc := Lib.hid (Past.cells' (Holding.pol_cells hc))
      have hcB := Lib.hid (Blk.agg_past (cs := [.int .i64 b.first, .slice A n cap, .int .i64 b.rate]) HB1.out 0 [.int .i64 b.first, .slice A n cap, .int .i64 b.rate] rfl)
      have c5 := (Holding.cells hc).2.2.2.2.2.1
      have c6 := (Holding.cells hc).2.2.2.2.2.2
      have d5 := fun y : Past wr => Past.cell c5 y
      have d6 := fun y : Past wr => Past.cell c6 y
      clear hc c5 c6
      have hsz : w.heap.size + 1 ≤ wr.heap.size := by have := hb.size; simpa using this
      by_cases hrc : resCode b x.pol x.year = 0
      rotate_left
      · have Q := Lib.hid (show portB b xs = false by
          have e : holdB b x = false := by simp [holdB, hrc]
          have e2 := all_stop Hx.out e
          simp [portB, e2])
        have hrb : (resCode b x.pol x.year != 0) = true := by simp [hrc]
        go_wp2
        refine wp_region_past (by kernel_rfl) (by kernel_rfl) ?_
        repeat (first | (go_big_quiet_want; (first | (first | (refine quiet_load_agg 32 _ rfl ⟨w.heap.size, 0, none⟩ rfl [.int .i64 b.first, .slice A n cap, .int .i64 b.rate] hcB.out _ Try.underlying32 rfl Bas.size ?_) | (refine quiet_load_agg 44 _ rfl (ad.add (k * 7)) rfl x.pol.row Hpc.out _ Try.underlying44 rfl Policy.size ?_))); go_simp; go_big_quiet_on) | go_big_quiet_step ((first | (go_at_call 112; exact past_call (spec_l11Code_any b A n cap x.pol x.year _ (HBT1.out.at_past _) Hfx.out.1 Hfx.out.2.1)) | (go_at_call 122; exact past_same (spec_l01In_any x.count 0 1000000 _)))))
        refine wpQuiet_nil ?_
        rintro _ ⟨y, rfl⟩
        go_wp2
        go_ret
        exact ⟨by rw [Q.out]; rfl, hbr.trans (y.2.mono hbr.size)⟩
      have Hrc := Lib.hid hrc; clear hrc
      cases hcn : inR x.count 0 1000000
      · have Q := Lib.hid (show portB b xs = false by
          have e : holdB b x = false := by simp [holdB, hcn]
          have e2 := all_stop Hx.out e
          simp [portB, e2])
        go_wp2
        refine wp_region_past (by kernel_rfl) (by kernel_rfl) ?_
        repeat (first | (go_big_quiet_want; (first | (first | (refine quiet_load_agg 32 _ rfl ⟨w.heap.size, 0, none⟩ rfl [.int .i64 b.first, .slice A n cap, .int .i64 b.rate] hcB.out _ Try.underlying32 rfl Bas.size ?_) | (refine quiet_load_agg 44 _ rfl (ad.add (k * 7)) rfl x.pol.row Hpc.out _ Try.underlying44 rfl Policy.size ?_))); go_simp; go_big_quiet_on) | go_big_quiet_step ((first | (go_at_call 112; exact past_call ((spec_l11Code_any b A n cap x.pol x.year _ (HBT1.out.at_past _) Hfx.out.1 Hfx.out.2.1).mono (by rw [Hrc.out]; exact fun _ _ h => h))) | (go_at_call 122; exact past_same ((spec_l01In_any x.count 0 1000000 _).mono (by rw [hcn]; exact fun _ _ h => h))))))
        refine wpQuiet_nil ?_
        rintro _ ⟨y, rfl⟩
        go_wp2
        go_ret
        exact ⟨by rw [Q.out]; rfl, hbr.trans (y.2.mono hbr.size)⟩
      · have HE := Lib.hid (show holdB b x = true by simp [holdB, hcn, Hrc.out])
        go_wp2
        refine wp_region_past (by kernel_rfl) (by kernel_rfl) ?_
        repeat (first | (go_big_quiet_want; (first | (first | (refine quiet_load_agg 32 _ rfl ⟨w.heap.size, 0, none⟩ rfl [.int .i64 b.first, .slice A n cap, .int .i64 b.rate] hcB.out _ Try.underlying32 rfl Bas.size ?_) | (refine quiet_load_agg 44 _ rfl (ad.add (k * 7)) rfl x.pol.row Hpc.out _ Try.underlying44 rfl Policy.size ?_))); go_simp; go_big_quiet_on) | go_big_quiet_step ((first | (go_at_call 112; exact past_call ((spec_l11Code_any b A n cap x.pol x.year _ (HBT1.out.at_past _) Hfx.out.1 Hfx.out.2.1).mono (by rw [Hrc.out]; exact fun _ _ h => h))) | (go_at_call 122; exact past_same ((spec_l01In_any x.count 0 1000000 _).mono (by rw [hcn]; exact fun _ _ h => h))))))
        refine wpQuiet_nil ?_
        rintro _ ⟨y, rfl⟩
        go_wp2
        go_roundw
        case rel => exact ⟨k + 1, by omega, by go_num, Lib.hid (all_succ hall.out Hx.out HE.out), hb.trans (y.2.mono hsz)⟩
        case measure => simp [intOf]; omega
    · have hkn : k = m := by omega
      subst hkn
      have hcB := Lib.hid (Blk.agg (cs := [.int .i64 b.first, .slice A n cap, .int .i64 b.rate]) HB1.out 0 [.int .i64 b.first, .slice A n cap, .int .i64 b.rate] rfl)
      have QA := Lib.hid (show xs.all (holdB b) = true from all_end HL.out hall.out)
      cases hbb : basisB b
      · have Q := Lib.hid (show portB b xs = false by simp [portB, hbb])
        go_wp2_with (refine wpList_load_agg rfl 32 _ rfl ⟨w.heap.size, 0, none⟩ rfl [.int .i64 b.first, .slice A n cap, .int .i64 b.rate] hcB.out _ Try.underlying32 rfl Bas.size ?_)
        refine (spec_IsBasis_any b A n cap _ HBT1.out).mono ?_
        rw [hbb]
        rintro e w3 ⟨rfl, hb3⟩
        go_wp2
        go_ret
        exact ⟨by rw [Q.out]; rfl, hbr.trans (hb3.mono hbr.size)⟩
      · have Q := Lib.hid (show portB b xs = decide ((k : Int) ≤ 30) by simp [portB, hbb, QA.out, HL.out]; try omega)
        go_wp2_with (refine wpList_load_agg rfl 32 _ rfl ⟨w.heap.size, 0, none⟩ rfl [.int .i64 b.first, .slice A n cap, .int .i64 b.rate] hcB.out _ Try.underlying32 rfl Bas.size ?_)
        refine (spec_IsBasis_any b A n cap _ HBT1.out).mono ?_
        rw [hbb]
        rintro e w3 ⟨rfl, hb3⟩
        go_wp2
        go_ret
        exact ⟨by rw [Q.out]; first | rfl | simp, hbr.trans (hb3.mono hbr.size)⟩

end Go.Proofs.Ythcnkcoplgdlkaa
