/- Parts of a proof, one after another: PortS, PolI5, Port2. No condition. -/
import Derived.Test.YtbjdbpdgacfcpaaGreatK2
import Derived.Test.YtbjdbpdgacfcpaaGreatK7
import Derived.Test.YtbjdbpdgacfcpaaGreatK11
/- Portfolios and what is reserved for them: the reference's contracts. -/
section
namespace Go.Proofs.YtbjdbpdgacfcpaaGreat
open Go.RowKit Go.BigFrame

def Holding.pol (h : Holding) : Policy := ⟨h.kind, h.age, h.years, h.sum, h.load⟩
def holdB (b : Bas) (h : Holding) : Bool := inR h.count 0 1000000 && (resCode b h.pol h.year == 0)
def portB (b : Bas) (xs : List Holding) : Bool := basisB b && (decide (xs.length ≤ 30) && xs.all (holdB b))
theorem hold_ok {b : Bas} {h : Holding} (H : holdB b h = true) : (0 ≤ h.count ∧ h.count ≤ 1000000) ∧ YearOk b h.pol h.year := by
  simp only [holdB, Bool.and_eq_true, inR_true, beq_iff_eq] at H
  exact ⟨H.1, year_ok H.2⟩
theorem port_ok {b : Bas} {xs : List Holding} (H : portB b xs = true) : BasOk b ∧ xs.length ≤ 30 ∧ ∀ h ∈ xs, (0 ≤ h.count ∧ h.count ≤ 1000000) ∧ YearOk b h.pol h.year := by
  simp only [portB, Bool.and_eq_true, decide_eq_true_eq, List.all_eq_true] at H
  exact ⟨basis_ok H.1, H.2.1, fun h hh => hold_ok (H.2.2 h hh)⟩
theorem dur_low {b : Bas} {p : Policy} (P : PolOk b p) : -300 ≤ durP b p := by
  have := P.tab.first0; have := P.age1; have := P.tab.len0; have := P.yrs0
  unfold durP Bas.last
  split <;> omega
theorem Holding.pol_cells {h : Holding} {w : World} {p : Addr} (hc : ∀ (j : Nat) (v : Value), h.row[j]? = some v → w.cell? (p.add j) = some v) : ∀ (j : Nat) (v : Value), h.pol.row[j]? = some v → w.cell? (p.add j) = some v := by
  intro j v hv
  refine hc j v ?_
  have e : h.pol.row = h.row.take 5 := rfl
  rw [e, List.getElem?_take] at hv
  split at hv
  · exact hv
  · cases hv
theorem Holding.fits_pol {h : Holding} (f : h.fits) : h.pol.fits ∧ In64 h.year ∧ In64 h.count := ⟨⟨f.1, f.2.1, f.2.2.1, f.2.2.2.1, f.2.2.2.2.1⟩, f.2.2.2.2.2.1, f.2.2.2.2.2.2⟩


set_option maxHeartbeats 4000000 in
theorem spec_l11Code_any (b : Bas) (A : Option Addr) (n cap : Nat) (p : Policy) (k : Int) (w : World) (hB : BasT w A n cap b) (hp : p.fits) (_hk : In64 k) :
    Calls Tryz.prog 137 #[.agg #[.int .i64 b.first, .slice A n cap, .int .i64 b.rate], .agg p.row.toArray, .int .i64 k] w fun e w' => e = .returned (.int .i64 (resCode b p k)) ∧ Below w.heap.size w w' := by
  have hbw := boxes_below (w := w) (X := b.row A n cap) (Y := p.row) (tx := 28) (ty := 88)
  have HB := Lib.hid ((Blk.new w 28 (b.row A n cap).toArray).alloc (.cells p.row.toArray 88))
  have HP := Lib.hid (Blk.new (w.alloc (.cells (b.row A n cap).toArray 28)) 88 p.row.toArray)
  rw [World.size_alloc] at HP
  unfold Bas.row Policy.row at *
  have HBT := Lib.hid (hB.past hbw); clear hB
  cases h1 : polB b p
  · have Q := Lib.hid (show resCode b p k = 1 by simp [resCode, h1])
    go_enter Tryz.func137, Tryz.ntmps137
    go_wp2_with fail
    refine (spec_IsPolicy_any b A n cap p _ HBT.out hp).mono ?_
    rw [h1]
    rintro e w1 ⟨rfl, hb1⟩
    go_wp2
    go_ret
    exact ⟨by rw [Q.out]; rfl, hbw.trans (hb1.mono hbw.size)⟩
  have HPO := Lib.hid (pol_ok h1)
  have dl := dur_low HPO.out
  have dh := dur_bound HPO.out
  have a1 := HPO.out.age0; have a2 := HPO.out.age1; have t0 := HPO.out.tab.first0
  cases h2 : inR k 0 (durP b p - 1)
  · have Q := Lib.hid (show resCode b p k = 2 by simp [resCode, h1, h2])
    go_enter Tryz.func137, Tryz.ntmps137
    go_wp2_with fail
    refine (spec_IsPolicy_any b A n cap p _ HBT.out hp).mono ?_
    rw [h1]
    rintro e w1 ⟨rfl, hb1⟩
    have HB1 := Lib.hid (HB.out.below' hb1)
    have HP1 := Lib.hid (HP.out.below' hb1)
    have hcT := Lib.hid (Blk.agg (cs := [.int .i64 b.first, .slice A n cap, .int .i64 b.rate]) HB1.out 0 [.int .i64 b.first, .slice A n cap] rfl)
    have hcB := Lib.hid (Blk.agg (cs := [.int .i64 b.first, .slice A n cap, .int .i64 b.rate]) HB1.out 0 [.int .i64 b.first, .slice A n cap, .int .i64 b.rate] rfl)
    have hcP := Lib.hid (Blk.agg (cs := [.int .i64 p.kind, .int .i64 p.age, .int .i64 p.years, .int .i64 p.sum, .int .i64 p.load]) HP1.out 0 [.int .i64 p.kind, .int .i64 p.age, .int .i64 p.years, .int .i64 p.sum, .int .i64 p.load] rfl)
    have HBT1 := Lib.hid (HBT.out.past hb1)
    go_wp2_with (first | (refine wpList_load_agg rfl 28 _ rfl ⟨w.heap.size, 0, none⟩ rfl [.int .i64 b.first, .slice A n cap, .int .i64 b.rate] hcB.out _ Tryz.underlying28 rfl Bas.size ?_) | (refine wpList_load_agg rfl 88 _ rfl ⟨w.heap.size + 1, 0, none⟩ rfl [.int .i64 p.kind, .int .i64 p.age, .int .i64 p.years, .int .i64 p.sum, .int .i64 p.load] hcP.out _ Tryz.underlying88 rfl Policy.size ?_))
    refine (spec_l10Duration_any b A n cap p _ HBT1.out HPO.out).mono ?_
    rintro e w2 ⟨rfl, hb2⟩
    go_wp2_with (first | (go_at_call 85; refine (spec_l01In_any _ _ _ _).mono ?_; rintro e w' ⟨rfl, rfl⟩))
    go_ret
    exact ⟨by rw [Q.out]; rfl, hbw.trans ((below_step hb1 hb2).mono hbw.size)⟩
  obtain ⟨k0, k1⟩ := inR_true.1 h2
  have QD := Lib.hid (show b.d (p.age + k) = dC b.lives b.rate (p.age + k - b.first).toNat from rfl)
  go_enter Tryz.func137, Tryz.ntmps137
  go_wp2_with fail
  refine (spec_IsPolicy_any b A n cap p _ HBT.out hp).mono ?_
  rw [h1]
  rintro e w1 ⟨rfl, hb1⟩
  have HB1 := Lib.hid (HB.out.below' hb1)
  have HP1 := Lib.hid (HP.out.below' hb1)
  have hcT := Lib.hid (Blk.agg (cs := [.int .i64 b.first, .slice A n cap, .int .i64 b.rate]) HB1.out 0 [.int .i64 b.first, .slice A n cap] rfl)
  have hcB := Lib.hid (Blk.agg (cs := [.int .i64 b.first, .slice A n cap, .int .i64 b.rate]) HB1.out 0 [.int .i64 b.first, .slice A n cap, .int .i64 b.rate] rfl)
  have hcP := Lib.hid (Blk.agg (cs := [.int .i64 p.kind, .int .i64 p.age, .int .i64 p.years, .int .i64 p.sum, .int .i64 p.load]) HP1.out 0 [.int .i64 p.kind, .int .i64 p.age, .int .i64 p.years, .int .i64 p.sum, .int .i64 p.load] rfl)
  have HBT1 := Lib.hid (HBT.out.past hb1)
  go_wp2_with (first | (refine wpList_load_agg rfl 28 _ rfl ⟨w.heap.size, 0, none⟩ rfl [.int .i64 b.first, .slice A n cap, .int .i64 b.rate] hcB.out _ Tryz.underlying28 rfl Bas.size ?_) | (refine wpList_load_agg rfl 88 _ rfl ⟨w.heap.size + 1, 0, none⟩ rfl [.int .i64 p.kind, .int .i64 p.age, .int .i64 p.years, .int .i64 p.sum, .int .i64 p.load] hcP.out _ Tryz.underlying88 rfl Policy.size ?_))
  clear hcT hcB hcP
  refine (spec_l10Duration_any b A n cap p _ HBT1.out HPO.out).mono ?_
  rintro e w2 ⟨rfl, hb2⟩
  have HB2 := Lib.hid (HB1.out.below' hb2)
  have HP2 := Lib.hid (HP1.out.below' hb2)
  have hcT := Lib.hid (Blk.agg (cs := [.int .i64 b.first, .slice A n cap, .int .i64 b.rate]) HB2.out 0 [.int .i64 b.first, .slice A n cap] rfl)
  have hcB := Lib.hid (Blk.agg (cs := [.int .i64 b.first, .slice A n cap, .int .i64 b.rate]) HB2.out 0 [.int .i64 b.first, .slice A n cap, .int .i64 b.rate] rfl)
  have hcP := Lib.hid (Blk.agg (cs := [.int .i64 p.kind, .int .i64 p.age, .int .i64 p.years, .int .i64 p.sum, .int .i64 p.load]) HP2.out 0 [.int .i64 p.kind, .int .i64 p.age, .int .i64 p.years, .int .i64 p.sum, .int .i64 p.load] rfl)
  have cb2 : w2.cell? ⟨w.heap.size, 2, none⟩ = some (.int .i64 b.rate) := HB2.out.cell 2
  have cp1 : w2.cell? ⟨w.heap.size + 1, 1, none⟩ = some (.int .i64 p.age) := HP2.out.cell 1
  have HBT2 := Lib.hid (HBT1.out.past hb2)
  go_wp2_with (first | (go_at_call 85; refine (spec_l01In_any _ _ _ _).mono ?_; rintro e w' ⟨rfl, rfl⟩) | (refine wpList_load_agg rfl 26 _ rfl ⟨w.heap.size, 0, none⟩ rfl [.int .i64 b.first, .slice A n cap] hcT.out _ Tryz.underlying26 rfl Tab.size ?_))
  refine (spec_l05D_any b.first A n cap b.lives b.rate (p.age + k) _ HBT2.out.lives HPO.out.tab ⟨HPO.out.rate0, HPO.out.rate1⟩ ⟨by omega, by omega⟩).mono ?_
  rw [← QD.out]
  by_cases hd : b.d (p.age + k) = 0
  · have Q := Lib.hid (show resCode b p k = 5 by simp [resCode, h1, h2, hd])
    have HD := Lib.hid hd; clear hd
    rw [HD.out]
    rintro e w3 ⟨rfl, hb3⟩
    go_wp2
    go_ret
    exact ⟨by rw [Q.out]; rfl, hbw.trans ((below_step (below_step hb1 hb2) hb3).mono hbw.size)⟩
  · have Q := Lib.hid (show resCode b p k = 0 by simp [resCode, h1, h2, hd])
    rintro e w3 ⟨rfl, hb3⟩
    go_wp2
    go_ret
    exact ⟨by rw [Q.out]; rfl, hbw.trans ((below_step (below_step hb1 hb2) hb3).mono hbw.size)⟩


set_option maxHeartbeats 4000000 in
theorem spec_IsPortfolio_any (b : Bas) (A : Option Addr) (n cap : Nat) (H : Option Addr) (m hcap : Nat) (xs : List Holding) (w : World) (hB : BasT w A n cap b) (hl : xs.length = m) (hm : m ≤ 1048576) (hX : Rd w w.heap.size H 7 (holdingRows xs)) (hf : ∀ x ∈ xs, x.fits) :
    Calls Tryz.prog 104 #[.agg #[.int .i64 b.first, .slice A n cap, .int .i64 b.rate], .slice H m hcap] w fun e w' => e = .returned (.bool (portB b xs)) ∧ Below w.heap.size w w' := by
  have hbw : Below w.heap.size w (w.alloc (.cells #[.int .i64 b.first, .slice A n cap, .int .i64 b.rate] 28)) := (Below.refl _ w).alloc (Nat.le_refl _) _
  have HB := Lib.hid (Blk.new w 28 #[.int .i64 b.first, .slice A n cap, .int .i64 b.rate])
  have HBT := Lib.hid (hB.past hbw); clear hB
  have HX := Lib.hid hX; clear hX
  have HL := Lib.hid hl; clear hl
  have HF := Lib.hid hf; clear hf
  go_enter Tryz.func104, Tryz.ntmps104
  go_wp2
  go_loopw [5] (fun i wr => ∃ k : Nat, k ≤ m ∧ i = .int .i64 k ∧ Hid ((xs.take k).all (holdB b) = true) ∧ Below (w.heap.size + 1) (w.alloc (.cells #[.int .i64 b.first, .slice A n cap, .int .i64 b.rate] 28)) wr) (fun i _ => m - (intOf i).toNat)
  case atStart => exact ⟨0, by omega, rfl, Lib.hid rfl, Below.refl _ _⟩
  case round =>
    obtain ⟨k, hk, rfl, hall, hb⟩ := hrel
    have HB1 := Lib.hid (HB.out.below hb (by omega))
    have HBT1 := Lib.hid (HBT.out.past (hb.mono (by simp)))
    have hbr : Below w.heap.size w wr := hbw.trans (hb.mono (by omega))
    by_cases hlt : k < m
    · obtain ⟨x, hx⟩ := get_of_lt (xs := xs) (k := k) (by rw [HL.out]; exact hlt)
      obtain ⟨ad, rfl, had, _, hc⟩ := (HX.out.below hbr).at' (holdingRows_get hx)
      have Hx := Lib.hid hx; clear hx
      have hfx := Holding.fits_pol (HF.out x (List.mem_of_getElem? Hx.out))
      have Hfx := Lib.hid hfx; clear hfx
      have Hpc := Lib.hid (Past.cells' (Holding.pol_cells hc))
      have hcB := Lib.hid (Blk.agg_past (cs := [.int .i64 b.first, .slice A n cap, .int .i64 b.rate]) HB1.out 0 [.int .i64 b.first, .slice A n cap, .int .i64 b.rate] rfl)
      have c5 := (Holding.cells hc).2.2.2.2.2.1
      have c6 := (Holding.cells hc).2.2.2.2.2.2
      have d5 := fun y : Past wr => Past.cell c5 y
      have d6 := fun y : Past wr => Past.cell c6 y
      clear hc c5 c6
      have hsz : w.heap.size + 1 ≤ wr.heap.size := by have := hb.size; simpa using this
      by_cases hrc : resCode b x.pol x.year = 0
      rotate_left
      · have Q := Lib.hid (show portB b xs = false by
          have e : holdB b x = false := by simp [holdB, hrc]
          have e2 := all_stop Hx.out e
          simp [portB, e2])
        have hrb : (resCode b x.pol x.year != 0) = true := by simp [hrc]
        go_wp2
        refine wp_region_past (by kernel_rfl) (by kernel_rfl) ?_
        repeat (first | (go_big_quiet_want; (first | (first | (refine quiet_load_agg 28 _ rfl ⟨w.heap.size, 0, none⟩ rfl [.int .i64 b.first, .slice A n cap, .int .i64 b.rate] hcB.out _ Tryz.underlying28 rfl Bas.size ?_) | (refine quiet_load_agg 88 _ rfl (ad.add (k * 7)) rfl x.pol.row Hpc.out _ Tryz.underlying88 rfl Policy.size ?_))); go_simp; go_big_quiet_on) | go_big_quiet_step ((first | (go_at_call 137; exact past_call (spec_l11Code_any b A n cap x.pol x.year _ (HBT1.out.at_past _) Hfx.out.1 Hfx.out.2.1)) | (go_at_call 85; exact past_same (spec_l01In_any x.count 0 1000000 _)))))
        refine wpQuiet_nil ?_
        rintro _ ⟨y, rfl⟩
        go_wp2
        go_ret
        exact ⟨by rw [Q.out]; rfl, hbr.trans (y.2.mono hbr.size)⟩
      have Hrc := Lib.hid hrc; clear hrc
      cases hcn : inR x.count 0 1000000
      · have Q := Lib.hid (show portB b xs = false by
          have e : holdB b x = false := by simp [holdB, hcn]
          have e2 := all_stop Hx.out e
          simp [portB, e2])
        go_wp2
        refine wp_region_past (by kernel_rfl) (by kernel_rfl) ?_
        repeat (first | (go_big_quiet_want; (first | (first | (refine quiet_load_agg 28 _ rfl ⟨w.heap.size, 0, none⟩ rfl [.int .i64 b.first, .slice A n cap, .int .i64 b.rate] hcB.out _ Tryz.underlying28 rfl Bas.size ?_) | (refine quiet_load_agg 88 _ rfl (ad.add (k * 7)) rfl x.pol.row Hpc.out _ Tryz.underlying88 rfl Policy.size ?_))); go_simp; go_big_quiet_on) | go_big_quiet_step ((first | (go_at_call 137; exact past_call ((spec_l11Code_any b A n cap x.pol x.year _ (HBT1.out.at_past _) Hfx.out.1 Hfx.out.2.1).mono (by rw [Hrc.out]; exact fun _ _ h => h))) | (go_at_call 85; exact past_same ((spec_l01In_any x.count 0 1000000 _).mono (by rw [hcn]; exact fun _ _ h => h))))))
        refine wpQuiet_nil ?_
        rintro _ ⟨y, rfl⟩
        go_wp2
        go_ret
        exact ⟨by rw [Q.out]; rfl, hbr.trans (y.2.mono hbr.size)⟩
      · have HE := Lib.hid (show holdB b x = true by simp [holdB, hcn, Hrc.out])
        go_wp2
        refine wp_region_past (by kernel_rfl) (by kernel_rfl) ?_
        repeat (first | (go_big_quiet_want; (first | (first | (refine quiet_load_agg 28 _ rfl ⟨w.heap.size, 0, none⟩ rfl [.int .i64 b.first, .slice A n cap, .int .i64 b.rate] hcB.out _ Tryz.underlying28 rfl Bas.size ?_) | (refine quiet_load_agg 88 _ rfl (ad.add (k * 7)) rfl x.pol.row Hpc.out _ Tryz.underlying88 rfl Policy.size ?_))); go_simp; go_big_quiet_on) | go_big_quiet_step ((first | (go_at_call 137; exact past_call ((spec_l11Code_any b A n cap x.pol x.year _ (HBT1.out.at_past _) Hfx.out.1 Hfx.out.2.1).mono (by rw [Hrc.out]; exact fun _ _ h => h))) | (go_at_call 85; exact past_same ((spec_l01In_any x.count 0 1000000 _).mono (by rw [hcn]; exact fun _ _ h => h))))))
        refine wpQuiet_nil ?_
        rintro _ ⟨y, rfl⟩
        go_wp2
        go_roundw
        case rel => exact ⟨k + 1, by omega, by go_num, Lib.hid (all_succ hall.out Hx.out HE.out), hb.trans (y.2.mono hsz)⟩
        case measure => simp [intOf]; omega
    · have hkn : k = m := by omega
      subst hkn
      have hcB := Lib.hid (Blk.agg (cs := [.int .i64 b.first, .slice A n cap, .int .i64 b.rate]) HB1.out 0 [.int .i64 b.first, .slice A n cap, .int .i64 b.rate] rfl)
      have QA := Lib.hid (show xs.all (holdB b) = true from all_end HL.out hall.out)
      cases hbb : basisB b
      · have Q := Lib.hid (show portB b xs = false by simp [portB, hbb])
        go_wp2_with (refine wpList_load_agg rfl 28 _ rfl ⟨w.heap.size, 0, none⟩ rfl [.int .i64 b.first, .slice A n cap, .int .i64 b.rate] hcB.out _ Tryz.underlying28 rfl Bas.size ?_)
        refine (spec_IsBasis_any b A n cap _ HBT1.out).mono ?_
        rw [hbb]
        rintro e w3 ⟨rfl, hb3⟩
        go_wp2
        go_ret
        exact ⟨by rw [Q.out]; rfl, hbr.trans (hb3.mono hbr.size)⟩
      · have Q := Lib.hid (show portB b xs = decide ((k : Int) ≤ 30) by simp [portB, hbb, QA.out, HL.out]; try omega)
        go_wp2_with (refine wpList_load_agg rfl 28 _ rfl ⟨w.heap.size, 0, none⟩ rfl [.int .i64 b.first, .slice A n cap, .int .i64 b.rate] hcB.out _ Tryz.underlying28 rfl Bas.size ?_)
        refine (spec_IsBasis_any b A n cap _ HBT1.out).mono ?_
        rw [hbb]
        rintro e w3 ⟨rfl, hb3⟩
        go_wp2
        go_ret
        exact ⟨by rw [Q.out]; first | rfl | simp, hbr.trans (hb3.mono hbr.size)⟩

end Go.Proofs.YtbjdbpdgacfcpaaGreat
end

/- Forward reserves, rounded, and whether a year has one: the program's contracts. -/
section
namespace Go.Proofs.YtbjdbpdgacfcpaaGreat
open Go.RowKit Go.BigFrame

set_option maxHeartbeats 2000000 in
theorem impl_reserveParts_forward_any (s t n v d : Int) (w : World) (K : PartOk s t n v d) :
    Calls Tryz.prog 140 #[.agg #[.int .i64 t, .int .i64 v, .int .i64 d], .int .i64 s, .int .i64 n] w fun e w' => e = .returned (.tuple #[.int .i64 (fwdP s t n v d).1, .int .i64 (fwdP s t n v d).2]) ∧ Below w.heap.size w w' := by
  have hbw : Below w.heap.size w (w.alloc (.cells #[.int .i64 t, .int .i64 v, .int .i64 d] 99)) := (Below.refl _ w).alloc (Nat.le_refl _) _
  have HB := Lib.hid (Blk.new w 99 #[.int .i64 t, .int .i64 v, .int .i64 d])
  have q1 := K.s0; have q2 := K.s1; have q3 := K.n0; have q4 := K.n1; have q5 := K.t0; have q6 := K.t1; have q7 := K.v0; have q8 := K.v1; have q9 := K.d0; have q10 := K.d1
  obtain ⟨⟨p1, p2⟩, p3, p4⟩ := part_quo K
  obtain ⟨⟨p5, p6⟩, p7, p8⟩ := part_rest K
  have HF := Lib.hid (fun h => fwd_low K h); have HG := Lib.hid (fun h => fwd_high K h)
  have QM1 := Lib.hid (show mdP s t d = (s * t / d, s * t % d, true) by unfold mdP; rw [if_pos (by omega)])
  have QM2 := Lib.hid (show mdP n v d = (n * v / d, n * v % d, true) by unfold mdP; rw [if_pos (by omega)])
  clear K
  generalize s * t / d = oq at *
  generalize s * t % d = orr at *
  generalize n * v / d = iq at *
  generalize n * v % d = ir at *
  by_cases hlt : orr < ir
  · have Q := Lib.hid (HF.out hlt)
    go_enter Tryz.func140, Tryz.ntmps140
    go_wp2_with fail
    refine (impl_multiplyDivide_any s t d _ ⟨by omega, by omega⟩ ⟨by omega, by omega⟩ ⟨by omega, by omega⟩).mono ?_
    rw [QM1.out]
    rintro e w1 ⟨rfl, hb1⟩
    have HB1 := Lib.hid (HB.out.below' hb1)
    have c1 : w1.cell? ⟨w.heap.size, 1, none⟩ = some (.int .i64 v) := HB1.out.cell 1
    have c2 : w1.cell? ⟨w.heap.size, 2, none⟩ = some (.int .i64 d) := HB1.out.cell 2
    go_wp2_with fail
    refine (impl_multiplyDivide_any n v d _ ⟨by omega, by omega⟩ ⟨by omega, by omega⟩ ⟨by omega, by omega⟩).mono ?_
    rw [QM2.out]
    rintro e w2 ⟨rfl, hb2⟩
    have d2 : w2.cell? ⟨w.heap.size, 2, none⟩ = some (.int .i64 d) := (HB1.out.below' hb2).cell 2
    have e2 := fun y : Past w2 => Past.cell d2 y
    clear c1 c2
    have hb02 := hbw.trans ((below_step hb1 hb2).mono hbw.size)
    go_wp2
    refine wp_region_past (by kernel_rfl) (by kernel_rfl) ?_
    repeat (go_big_quiet_step (fail))
    refine wpQuiet_nil ?_
    rintro _ ⟨y, rfl⟩
    go_wp2
    go_ret2
    exact ⟨by rw [Q.out]; rfl, hb02.trans (y.2.mono hb02.size)⟩
  · have Q := Lib.hid (HG.out hlt)
    go_enter Tryz.func140, Tryz.ntmps140
    go_wp2_with fail
    refine (impl_multiplyDivide_any s t d _ ⟨by omega, by omega⟩ ⟨by omega, by omega⟩ ⟨by omega, by omega⟩).mono ?_
    rw [QM1.out]
    rintro e w1 ⟨rfl, hb1⟩
    have HB1 := Lib.hid (HB.out.below' hb1)
    have c1 : w1.cell? ⟨w.heap.size, 1, none⟩ = some (.int .i64 v) := HB1.out.cell 1
    have c2 : w1.cell? ⟨w.heap.size, 2, none⟩ = some (.int .i64 d) := HB1.out.cell 2
    go_wp2_with fail
    refine (impl_multiplyDivide_any n v d _ ⟨by omega, by omega⟩ ⟨by omega, by omega⟩ ⟨by omega, by omega⟩).mono ?_
    rw [QM2.out]
    rintro e w2 ⟨rfl, hb2⟩
    have hb02 := hbw.trans ((below_step hb1 hb2).mono hbw.size)
    go_wp2
    go_ret2
    exact ⟨by rw [Q.out]; rfl, hb02⟩

theorem impl_reserveParts_rounded_any (s t n v d : Int) (w : World) (K : PartOk s t n v d) :
    Calls Tryz.prog 76 #[.agg #[.int .i64 t, .int .i64 v, .int .i64 d], .int .i64 s, .int .i64 n] w fun e w' => e = .returned (.int .i64 (roundP (fwdP s t n v d))) ∧ Below w.heap.size w w' := by
  have hbw : Below w.heap.size w (w.alloc (.cells #[.int .i64 t, .int .i64 v, .int .i64 d] 99)) := (Below.refl _ w).alloc (Nat.le_refl _) _
  have HF := Lib.hid (fwd_bound K)
  have HK := Lib.hid K
  have d8 := K.d1
  clear K
  obtain ⟨F, hF⟩ : ∃ F, fwdP s t n v d = F := ⟨_, rfl⟩
  rw [hF] at HF ⊢
  have HFF := Lib.hid hF; clear hF
  obtain ⟨⟨g1, g2⟩, g3, g4⟩ := HF.out
  unfold roundP
  obtain ⟨F1, F2⟩ := F
  simp only at g1 g2 g3 g4 ⊢
  by_cases hr : 0 < F2
  · rw [if_pos hr]
    obtain ⟨m, hm⟩ : ∃ m, max 0 (F1 + 1) = m := ⟨_, rfl⟩
    have HM := Lib.hid hm
    go_enter Tryz.func76, Tryz.ntmps76
    go_wp2_with fail
    refine (impl_reserveParts_forward_any s t n v d _ HK.out).mono ?_
    rw [HFF.out]
    rintro e w1 ⟨rfl, hb1⟩
    go_wp2
    all_goals (go_ret; exact ⟨by first | rfl | (rw [HM.out]; rfl) | (congr 2; omega) | (simp; omega), hbw.trans (hb1.mono hbw.size)⟩)
  · rw [if_neg hr]
    go_enter Tryz.func76, Tryz.ntmps76
    go_wp2_with fail
    refine (impl_reserveParts_forward_any s t n v d _ HK.out).mono ?_
    rw [HFF.out]
    rintro e w1 ⟨rfl, hb1⟩
    go_wp2
    all_goals (go_ret; exact ⟨by first | rfl | (congr 2; done) | (congr 2; omega) | (simp; done) | (simp; omega), hbw.trans (hb1.mono hbw.size)⟩)


def resParts (b : Bas) (p : Policy) (k : Int) : List Value := if resCode b p k = 0 then [.int .i64 (partT b p k), .int .i64 (partB b p k), .int .i64 (partD b p k)] else [.int .i64 0, .int .i64 0, .int .i64 0]
theorem code_year {b : Bas} {p : Policy} {k : Int} (h1 : polB b p = true) (h2 : inR k 0 (durP b p - 1) = true) : resCode b p k = if partD b p k = 0 then 5 else 0 := by
  unfold resCode; rw [if_pos h1, if_pos h2]; rfl
set_option maxRecDepth 100000 in
set_option maxHeartbeats 6000000 in
theorem impl_checkReserve_any (b : Bas) (A : Option Addr) (n cap : Nat) (p : Policy) (k : Int) (w : World) (hB : BasT w A n cap b) (hp : p.fits) (_hk : In64 k) :
    Calls Tryz.prog 149 #[.agg #[.int .i64 b.first, .slice A n cap, .int .i64 b.rate], .agg p.row.toArray, .int .i64 k] w fun e w' => e = .returned (.tuple #[.agg (resParts b p k).toArray, .int .i64 (resCode b p k)]) ∧ Below w.heap.size w w' := by
  have hbw : Below w.heap.size w (((w.alloc (.cells #[.int .i64 b.first, .slice A n cap, .int .i64 b.rate] 28)).alloc (.cells #[.int .i64 p.kind, .int .i64 p.age, .int .i64 p.years, .int .i64 p.sum, .int .i64 p.load] 88)).alloc (.cells #[.int .i64 0, .int .i64 0, .int .i64 0] 99)) := (((Below.refl _ w).alloc (Nat.le_refl _) _).alloc (by simp) _).alloc (by simp <;> omega) _
  have HB := Lib.hid (((Blk.new w 28 #[.int .i64 b.first, .slice A n cap, .int .i64 b.rate]).alloc (.cells #[.int .i64 p.kind, .int .i64 p.age, .int .i64 p.years, .int .i64 p.sum, .int .i64 p.load] 88)).alloc (.cells #[.int .i64 0, .int .i64 0, .int .i64 0] 99))
  have HP := Lib.hid ((Blk.new (w.alloc (.cells #[.int .i64 b.first, .slice A n cap, .int .i64 b.rate] 28)) 88 #[.int .i64 p.kind, .int .i64 p.age, .int .i64 p.years, .int .i64 p.sum, .int .i64 p.load]).alloc (.cells #[.int .i64 0, .int .i64 0, .int .i64 0] 99))
  have HR := Lib.hid (Blk.new ((w.alloc (.cells #[.int .i64 b.first, .slice A n cap, .int .i64 b.rate] 28)).alloc (.cells #[.int .i64 p.kind, .int .i64 p.age, .int .i64 p.years, .int .i64 p.sum, .int .i64 p.load] 88)) 99 #[.int .i64 0, .int .i64 0, .int .i64 0])
  simp only [World.size_alloc] at HP HR
  have HBT := Lib.hid (hB.past hbw); clear hB
  unfold Policy.row at *
  have H1d : Hid (∀ v ∈ ([.int .i64 0, .int .i64 0, .int .i64 0] : List Value), v.oneCell' = true) := Lib.hid (by simp [Value.oneCell'])
  cases h1 : polB b p
  · have Q := Lib.hid (show resCode b p k = 1 by simp [resCode, h1])
    have QP := Lib.hid (show resParts b p k = [.int .i64 0, .int .i64 0, .int .i64 0] by unfold resParts; rw [Q.out]; rfl)
    go_enter Tryz.func149, Tryz.ntmps149
    go_wp2_with fail
    refine (impl_IsPolicy_any b A n cap p _ HBT.out hp).mono ?_
    rw [h1]
    rintro e w1 ⟨rfl, hb1⟩
    have HR1 := Lib.hid (HR.out.below' hb1)
    have hb01 := hbw.trans (hb1.mono hbw.size)
    go_wp2_with (refine wpList_store_agg rfl 99 _ _ rfl (w.heap.size + 2) 0 [.int .i64 0, .int .i64 0, .int .i64 0] rfl rfl 99 #[.int .i64 0, .int .i64 0, .int .i64 0] HR1.out ReserveParts.size (by simp) H1d.out ?_)
    intro w6 hR6 hg6 _
    have hR6' : Blk w6 (w.heap.size + 2) 99 #[.int .i64 0, .int .i64 0, .int .i64 0] := hR6
    have r0 : w6.cell? ⟨w.heap.size + 2, 0, none⟩ = some (.int .i64 0) := hR6'.cell 0
    have r1 : w6.cell? ⟨w.heap.size + 2, 1, none⟩ = some (.int .i64 0) := hR6'.cell 1
    have r2 : w6.cell? ⟨w.heap.size + 2, 2, none⟩ = some (.int .i64 0) := hR6'.cell 2
    go_wp2
    refine bodyPost_ret (v := .tuple #[.agg #[.int .i64 0, .int .i64 0, .int .i64 0], .int .i64 1]) (by simp [results, Tryz.results149, go_sem, r0, r1, r2]) rfl ⟨by rw [QP.out, Q.out], hb01.grown hg6 hb01.size (fun k hk => by injection hk with hk; omega)⟩
  have HPO := Lib.hid (pol_ok h1)
  have dl := dur_low HPO.out
  have dh := dur_bound HPO.out
  cases h2 : inR k 0 (durP b p - 1)
  · have Q := Lib.hid (show resCode b p k = 2 by simp [resCode, h1, h2])
    have QP := Lib.hid (show resParts b p k = [.int .i64 0, .int .i64 0, .int .i64 0] by unfold resParts; rw [Q.out]; rfl)
    go_enter Tryz.func149, Tryz.ntmps149
    go_wp2_with fail
    refine (impl_IsPolicy_any b A n cap p _ HBT.out hp).mono ?_
    rw [h1]
    rintro e w1 ⟨rfl, hb1⟩
    have HB1 := Lib.hid (HB.out.below' hb1); have HP1 := Lib.hid (HP.out.below' hb1); have HR1 := Lib.hid (HR.out.below' hb1); have HBT1 := Lib.hid (HBT.out.past hb1)
    have hcT := Lib.hid (Blk.agg (cs := [.int .i64 b.first, .slice A n cap, .int .i64 b.rate]) HB1.out 0 [.int .i64 b.first, .slice A n cap] rfl)
    have hcB := Lib.hid (Blk.agg (cs := [.int .i64 b.first, .slice A n cap, .int .i64 b.rate]) HB1.out 0 [.int .i64 b.first, .slice A n cap, .int .i64 b.rate] rfl)
    have hcP := Lib.hid (Blk.agg (cs := [.int .i64 p.kind, .int .i64 p.age, .int .i64 p.years, .int .i64 p.sum, .int .i64 p.load]) HP1.out 0 [.int .i64 p.kind, .int .i64 p.age, .int .i64 p.years, .int .i64 p.sum, .int .i64 p.load] rfl)
    go_wp2_with (first | (refine wpList_load_agg rfl 28 _ rfl ⟨w.heap.size, 0, none⟩ rfl [.int .i64 b.first, .slice A n cap, .int .i64 b.rate] hcB.out _ Tryz.underlying28 rfl Bas.size ?_) | (refine wpList_load_agg rfl 88 _ rfl ⟨w.heap.size + 1, 0, none⟩ rfl [.int .i64 p.kind, .int .i64 p.age, .int .i64 p.years, .int .i64 p.sum, .int .i64 p.load] hcP.out _ Tryz.underlying88 rfl Policy.size ?_))
    refine (impl_durationOf_any b A n cap p _ HBT1.out HPO.out).mono ?_
    rintro e w2 ⟨rfl, hb2⟩
    have HR2 := Lib.hid (HR1.out.below' hb2)
    have hb02 := hbw.trans ((below_step hb1 hb2).mono hbw.size)
    clear hcT hcB hcP
    go_wp2_with (first | (go_at_call 82; refine (impl_inRange_any _ _ _ _).mono ?_; rintro e w' ⟨rfl, rfl⟩) | (refine wpList_store_agg rfl 99 _ _ rfl (w.heap.size + 2) 0 [.int .i64 0, .int .i64 0, .int .i64 0] rfl rfl 99 #[.int .i64 0, .int .i64 0, .int .i64 0] HR2.out ReserveParts.size (by simp) H1d.out ?_))
    intro w6 hR6 hg6 _
    have hR6' : Blk w6 (w.heap.size + 2) 99 #[.int .i64 0, .int .i64 0, .int .i64 0] := hR6
    have r0 : w6.cell? ⟨w.heap.size + 2, 0, none⟩ = some (.int .i64 0) := hR6'.cell 0
    have r1 : w6.cell? ⟨w.heap.size + 2, 1, none⟩ = some (.int .i64 0) := hR6'.cell 1
    have r2 : w6.cell? ⟨w.heap.size + 2, 2, none⟩ = some (.int .i64 0) := hR6'.cell 2
    go_wp2
    refine bodyPost_ret (v := .tuple #[.agg #[.int .i64 0, .int .i64 0, .int .i64 0], .int .i64 2]) (by simp [results, Tryz.results149, go_sem, r0, r1, r2]) rfl ⟨by rw [QP.out, Q.out], hb02.grown hg6 hb02.size (fun k hk => by injection hk with hk; omega)⟩
  have hcy := code_year h1 h2
  obtain ⟨k0, k1⟩ := inR_true.1 h2
  go_enter Tryz.func149, Tryz.ntmps149
  go_wp2_with fail
  refine (impl_IsPolicy_any b A n cap p _ HBT.out hp).mono ?_
  rw [h1]
  rintro e w1 ⟨rfl, hb1⟩
  have HB1 := Lib.hid (HB.out.below' hb1); have HP1 := Lib.hid (HP.out.below' hb1); have HR1 := Lib.hid (HR.out.below' hb1); have HBT1 := Lib.hid (HBT.out.past hb1)
  have hcT := Lib.hid (Blk.agg (cs := [.int .i64 b.first, .slice A n cap, .int .i64 b.rate]) HB1.out 0 [.int .i64 b.first, .slice A n cap] rfl)
  have hcB := Lib.hid (Blk.agg (cs := [.int .i64 b.first, .slice A n cap, .int .i64 b.rate]) HB1.out 0 [.int .i64 b.first, .slice A n cap, .int .i64 b.rate] rfl)
  have hcP := Lib.hid (Blk.agg (cs := [.int .i64 p.kind, .int .i64 p.age, .int .i64 p.years, .int .i64 p.sum, .int .i64 p.load]) HP1.out 0 [.int .i64 p.kind, .int .i64 p.age, .int .i64 p.years, .int .i64 p.sum, .int .i64 p.load] rfl)
  go_wp2_with (first | (refine wpList_load_agg rfl 28 _ rfl ⟨w.heap.size, 0, none⟩ rfl [.int .i64 b.first, .slice A n cap, .int .i64 b.rate] hcB.out _ Tryz.underlying28 rfl Bas.size ?_) | (refine wpList_load_agg rfl 88 _ rfl ⟨w.heap.size + 1, 0, none⟩ rfl [.int .i64 p.kind, .int .i64 p.age, .int .i64 p.years, .int .i64 p.sum, .int .i64 p.load] hcP.out _ Tryz.underlying88 rfl Policy.size ?_))
  refine (impl_durationOf_any b A n cap p _ HBT1.out HPO.out).mono ?_
  rintro e w2 ⟨rfl, hb2⟩
  have HB2 := Lib.hid (HB1.out.below' hb2); have HP2 := Lib.hid (HP1.out.below' hb2); have HR2 := Lib.hid (HR1.out.below' hb2); have HBT2 := Lib.hid (HBT1.out.past hb2)
  have hb02 := hbw.trans ((below_step hb1 hb2).mono hbw.size)
  clear hcT hcB hcP
  have HS := Lib.hid (show ∀ w', Below w2.heap.size w2 w' → w'.cell? ⟨w.heap.size, 0, none⟩ = some (.int .i64 b.first) ∧ w'.cell? ⟨w.heap.size, 1, none⟩ = some (.slice A n cap) ∧ w'.cell? ⟨w.heap.size, 2, none⟩ = some (.int .i64 b.rate) ∧ w'.cell? ⟨w.heap.size + 1, 0, none⟩ = some (.int .i64 p.kind) ∧ w'.cell? ⟨w.heap.size + 1, 1, none⟩ = some (.int .i64 p.age) ∧ w'.cell? ⟨w.heap.size + 1, 2, none⟩ = some (.int .i64 p.years) ∧ w'.cell? ⟨w.heap.size + 1, 3, none⟩ = some (.int .i64 p.sum) ∧ w'.cell? ⟨w.heap.size + 1, 4, none⟩ = some (.int .i64 p.load) from fun w' h => by
    have HB' := HB2.out.below' h
    have HP' := HP2.out.below' h
    exact ⟨(HB'.cell 0), (HB'.cell 1), (HB'.cell 2), (HP'.cell 0), (HP'.cell 1), (HP'.cell 2), (HP'.cell 3), (HP'.cell 4)⟩)
  go_wp2_with (first | (go_at_call 82; refine (impl_inRange_any _ _ _ _).mono ?_; rintro e w' ⟨rfl, rfl⟩))
  have HS2 := Lib.hid (show ∀ w', Below w2.heap.size w2 w' → Below w2.heap.size w2 w' ∧ w'.cell? ⟨w.heap.size, 0, none⟩ = some (.int .i64 b.first) ∧ w'.cell? ⟨w.heap.size, 1, none⟩ = some (.slice A n cap) ∧ w'.cell? ⟨w.heap.size, 2, none⟩ = some (.int .i64 b.rate) ∧ w'.cell? ⟨w.heap.size + 1, 0, none⟩ = some (.int .i64 p.kind) ∧ w'.cell? ⟨w.heap.size + 1, 1, none⟩ = some (.int .i64 p.age) ∧ w'.cell? ⟨w.heap.size + 1, 2, none⟩ = some (.int .i64 p.years) ∧ w'.cell? ⟨w.heap.size + 1, 3, none⟩ = some (.int .i64 p.sum) ∧ w'.cell? ⟨w.heap.size + 1, 4, none⟩ = some (.int .i64 p.load) from fun w' h => ⟨h, HS.out w' h⟩)
  go_region_held3 (fun w' => Below w2.heap.size w2 w' ∧ w'.cell? ⟨w.heap.size, 0, none⟩ = some (.int .i64 b.first) ∧ w'.cell? ⟨w.heap.size, 1, none⟩ = some (.slice A n cap) ∧ w'.cell? ⟨w.heap.size, 2, none⟩ = some (.int .i64 b.rate) ∧ w'.cell? ⟨w.heap.size + 1, 0, none⟩ = some (.int .i64 p.kind) ∧ w'.cell? ⟨w.heap.size + 1, 1, none⟩ = some (.int .i64 p.age) ∧ w'.cell? ⟨w.heap.size + 1, 2, none⟩ = some (.int .i64 p.years) ∧ w'.cell? ⟨w.heap.size + 1, 3, none⟩ = some (.int .i64 p.sum) ∧ w'.cell? ⟨w.heap.size + 1, 4, none⟩ = some (.int .i64 p.load)) (first | exact HS2.out _ (Below.drew (Below.refl _ _)) | exact HS2.out _ hc4 | exact HS2.out _ hc3 | exact HS2.out _ (Below.alloc hc4 hc4.size _) | (rename Below w2.heap.size w2 _ ∧ _ => hH; exact HS2.out _ (Below.alloc hH.1 hH.1.size _)) | exact HS2.out _ (Below.setCell (Below.setCell (Below.setCell hc4 (by first | exact Nat.le_refl _ | exact hc3.size) _) (by first | exact Nat.le_refl _ | exact hc3.size) _) (by first | exact Nat.le_refl _ | exact hc3.size) _)) (first | (go_at_call 139; rename Below w2.heap.size w2 _ ∧ _ => hH; have hHB := HBT2.out.past hH.1; refine (impl_columnsOf_any b.first A n cap b.lives b.rate _ hHB.lives HPO.out.tab ⟨HPO.out.rate0, HPO.out.rate1⟩).mono ?_; rintro e w3 ⟨g, rfl, hL, hb3⟩; have hc3 : Below w2.heap.size w2 w3 := Below.trans hH.1 (hb3.mono hH.1.size); have HL3 := Lib.hid hL; clear hL; (first | (have HZ3 := Lib.hid ((Blk.new w2.drew 99 #[.int .i64 0, .int .i64 0, .int .i64 0]).below' hb3); have za0 : w3.cell? ⟨w2.heap.size, 0, none⟩ = some (.int .i64 0) := (HZ3.out).cell 0; have za1 : w3.cell? ⟨w2.heap.size, 1, none⟩ = some (.int .i64 0) := (HZ3.out).cell 1; have za2 : w3.cell? ⟨w2.heap.size, 2, none⟩ = some (.int .i64 0) := (HZ3.out).cell 2; have zaf0 : w3.frozen? ⟨w2.heap.size, 0, none⟩ = false := (HZ3.out).frozen 0; have zaf1 : w3.frozen? ⟨w2.heap.size, 1, none⟩ = false := (HZ3.out).frozen 1; have zaf2 : w3.frozen? ⟨w2.heap.size, 2, none⟩ = false := (HZ3.out).frozen 2) | skip)) | (go_at_call 138; rename Below w2.heap.size w2 _ ∧ _ => hH; have hHB := HBT2.out.past hH.1; refine (impl_partsAt_any b A n cap p (some ⟨g, 0, none⟩) _ k _ hHB HPO.out ⟨k0, k1⟩ (by first | exact HL3.out | exact (HL3.out.alloc (Nat.le_refl _) _).more (by simp))).mono ?_; rintro e w4 ⟨rfl, hb4⟩; have hc4 : Below w2.heap.size w2 w4 := Below.trans hH.1 (hb4.mono hH.1.size); (first | (have HZ4 := Lib.hid ((Blk.new w3 99 #[.int .i64 0, .int .i64 0, .int .i64 0]).below' hb4); have zb0 : w4.cell? ⟨w3.heap.size, 0, none⟩ = some (.int .i64 0) := (HZ4.out).cell 0; have zb1 : w4.cell? ⟨w3.heap.size, 1, none⟩ = some (.int .i64 0) := (HZ4.out).cell 1; have zb2 : w4.cell? ⟨w3.heap.size, 2, none⟩ = some (.int .i64 0) := (HZ4.out).cell 2; have zbf0 : w4.frozen? ⟨w3.heap.size, 0, none⟩ = false := (HZ4.out).frozen 0; have zbf1 : w4.frozen? ⟨w3.heap.size, 1, none⟩ = false := (HZ4.out).frozen 1; have zbf2 : w4.frozen? ⟨w3.heap.size, 2, none⟩ = false := (HZ4.out).frozen 2) | (have HZ4 := Lib.hid (HZ3.out.below' hb4); have zc0 : w4.cell? ⟨w2.heap.size, 0, none⟩ = some (.int .i64 0) := (HZ4.out).cell 0; have zc1 : w4.cell? ⟨w2.heap.size, 1, none⟩ = some (.int .i64 0) := (HZ4.out).cell 1; have zc2 : w4.cell? ⟨w2.heap.size, 2, none⟩ = some (.int .i64 0) := (HZ4.out).cell 2; have zcf0 : w4.frozen? ⟨w2.heap.size, 0, none⟩ = false := (HZ4.out).frozen 0; have zcf1 : w4.frozen? ⟨w2.heap.size, 1, none⟩ = false := (HZ4.out).frozen 1; have zcf2 : w4.frozen? ⟨w2.heap.size, 2, none⟩ = false := (HZ4.out).frozen 2) | skip)))
  all_goals (rename Below w2.heap.size w2 _ ∧ _ => hE; replace hE := hE.1)
  · have hK : Blk (w4.alloc (.cells #[.int .i64 (partT b p k), .int .i64 (partB b p k), .int .i64 (partD b p k)] 99)) (w4.heap.size) 99 #[.int .i64 (partT b p k), .int .i64 (partB b p k), .int .i64 (partD b p k)] := Blk.new w4 _ _
    have hGle : w2.heap.size ≤ w4.heap.size := hc4.size
    have HW := Lib.hid (And.intro hE (And.intro hK hGle)); clear hK hGle hE
    generalize (w4.alloc (.cells #[.int .i64 (partT b p k), .int .i64 (partB b p k), .int .i64 (partD b p k)] 99)) = W5 at HW ⊢
    generalize w4.heap.size = G5 at HW ⊢
    obtain ⟨hE, hK, hGle⟩ := HW.out
    have HE := Lib.hid hE; have HK := Lib.hid hK
    have c2 : W5.cell? ⟨G5, 2, none⟩ = some (.int .i64 (partD b p k)) := hK.cell 2
    have HR5 := Lib.hid (HR2.out.below' hE)
    have hb05 := hb02.trans (hE.mono hb02.size)
    have hcR := Lib.hid (Blk.agg (cs := [.int .i64 (partT b p k), .int .i64 (partB b p k), .int .i64 (partD b p k)]) hK 0 [.int .i64 (partT b p k), .int .i64 (partB b p k), .int .i64 (partD b p k)] rfl)
    clear hE hK
    by_cases h0 : partD b p k = 0
    · have QZ := Lib.hid (show resCode b p k = 5 by rw [hcy, if_pos h0])
      have QP := Lib.hid (show resParts b p k = [.int .i64 0, .int .i64 0, .int .i64 0] by unfold resParts; rw [QZ.out]; rfl)
      have QB : (partD b p k == 0) = true := by simp [h0]
      go_wp2_with (refine wpList_store_agg rfl 99 _ _ rfl (w.heap.size + 2) 0 [.int .i64 0, .int .i64 0, .int .i64 0] rfl rfl 99 #[.int .i64 0, .int .i64 0, .int .i64 0] HR5.out ReserveParts.size (by simp) H1d.out ?_)
      intro w6 hR6 hg6 _
      have hR6' : Blk w6 (w.heap.size + 2) 99 #[.int .i64 0, .int .i64 0, .int .i64 0] := hR6
      have r0 : w6.cell? ⟨w.heap.size + 2, 0, none⟩ = some (.int .i64 0) := hR6'.cell 0
      have r1 : w6.cell? ⟨w.heap.size + 2, 1, none⟩ = some (.int .i64 0) := hR6'.cell 1
      have r2 : w6.cell? ⟨w.heap.size + 2, 2, none⟩ = some (.int .i64 0) := hR6'.cell 2
      go_wp2
      refine bodyPost_ret (v := .tuple #[.agg #[.int .i64 0, .int .i64 0, .int .i64 0], .int .i64 5]) (by simp [results, Tryz.results149, go_sem, r0, r1, r2]) rfl ⟨by rw [QP.out, QZ.out], hb05.grown hg6 hb05.size (fun k hk => by injection hk with hk; omega)⟩
    · have QZ := Lib.hid (show resCode b p k = 0 by rw [hcy, if_neg h0])
      have QP := Lib.hid (show resParts b p k = [.int .i64 (partT b p k), .int .i64 (partB b p k), .int .i64 (partD b p k)] by unfold resParts; rw [QZ.out]; rfl)
      have H1e : Hid (∀ v ∈ ([.int .i64 (partT b p k), .int .i64 (partB b p k), .int .i64 (partD b p k)] : List Value), v.oneCell' = true) := Lib.hid (by simp [Value.oneCell'])
      have QB : (partD b p k == 0) = false := by simp [h0]
      go_wp2_with (first | (refine wpList_load_agg rfl 99 _ rfl ⟨G5, 0, none⟩ rfl [.int .i64 (partT b p k), .int .i64 (partB b p k), .int .i64 (partD b p k)] hcR.out _ Tryz.underlying99 rfl ReserveParts.size ?_) | (refine wpList_store_agg rfl 99 _ _ rfl (w.heap.size + 2) 0 [.int .i64 (partT b p k), .int .i64 (partB b p k), .int .i64 (partD b p k)] rfl rfl 99 #[.int .i64 0, .int .i64 0, .int .i64 0] HR5.out ReserveParts.size (by simp) H1e.out ?_))
      intro w6 hR6 hg6 _
      have hR6' : Blk w6 (w.heap.size + 2) 99 #[.int .i64 (partT b p k), .int .i64 (partB b p k), .int .i64 (partD b p k)] := hR6
      have r0 : w6.cell? ⟨w.heap.size + 2, 0, none⟩ = some (.int .i64 (partT b p k)) := hR6'.cell 0
      have r1 : w6.cell? ⟨w.heap.size + 2, 1, none⟩ = some (.int .i64 (partB b p k)) := hR6'.cell 1
      have r2 : w6.cell? ⟨w.heap.size + 2, 2, none⟩ = some (.int .i64 (partD b p k)) := hR6'.cell 2
      go_wp2
      refine bodyPost_ret (v := .tuple #[.agg #[.int .i64 (partT b p k), .int .i64 (partB b p k), .int .i64 (partD b p k)], .int .i64 0]) (by simp [results, Tryz.results149, go_sem, r0, r1, r2]) rfl ⟨by rw [QP.out, QZ.out], hb05.grown hg6 hb05.size (fun k hk => by injection hk with hk; omega)⟩
  · have hK : Blk (((w4.setCell ⟨w3.heap.size, 0, none⟩ (.int .i64 (partT b p k))).setCell ⟨w3.heap.size, 1, none⟩ (.int .i64 (partB b p k))).setCell ⟨w3.heap.size, 2, none⟩ (.int .i64 (partD b p k))) (w3.heap.size) 99 #[.int .i64 (partT b p k), .int .i64 (partB b p k), .int .i64 (partD b p k)] := by simpa using ((HZ4.out.set_ 0 (.int .i64 (partT b p k))).set_ 1 (.int .i64 (partB b p k))).set_ 2 (.int .i64 (partD b p k))
    have hGle : w2.heap.size ≤ w3.heap.size := hc3.size
    have HW := Lib.hid (And.intro hE (And.intro hK hGle)); clear hK hGle hE
    generalize (((w4.setCell ⟨w3.heap.size, 0, none⟩ (.int .i64 (partT b p k))).setCell ⟨w3.heap.size, 1, none⟩ (.int .i64 (partB b p k))).setCell ⟨w3.heap.size, 2, none⟩ (.int .i64 (partD b p k))) = W5 at HW ⊢
    generalize w3.heap.size = G5 at HW ⊢
    obtain ⟨hE, hK, hGle⟩ := HW.out
    have HE := Lib.hid hE; have HK := Lib.hid hK
    have c2 : W5.cell? ⟨G5, 2, none⟩ = some (.int .i64 (partD b p k)) := hK.cell 2
    have HR5 := Lib.hid (HR2.out.below' hE)
    have hb05 := hb02.trans (hE.mono hb02.size)
    have hcR := Lib.hid (Blk.agg (cs := [.int .i64 (partT b p k), .int .i64 (partB b p k), .int .i64 (partD b p k)]) hK 0 [.int .i64 (partT b p k), .int .i64 (partB b p k), .int .i64 (partD b p k)] rfl)
    clear hE hK
    by_cases h0 : partD b p k = 0
    · have QZ := Lib.hid (show resCode b p k = 5 by rw [hcy, if_pos h0])
      have QP := Lib.hid (show resParts b p k = [.int .i64 0, .int .i64 0, .int .i64 0] by unfold resParts; rw [QZ.out]; rfl)
      have QB : (partD b p k == 0) = true := by simp [h0]
      go_wp2_with (refine wpList_store_agg rfl 99 _ _ rfl (w.heap.size + 2) 0 [.int .i64 0, .int .i64 0, .int .i64 0] rfl rfl 99 #[.int .i64 0, .int .i64 0, .int .i64 0] HR5.out ReserveParts.size (by simp) H1d.out ?_)
      intro w6 hR6 hg6 _
      have hR6' : Blk w6 (w.heap.size + 2) 99 #[.int .i64 0, .int .i64 0, .int .i64 0] := hR6
      have r0 : w6.cell? ⟨w.heap.size + 2, 0, none⟩ = some (.int .i64 0) := hR6'.cell 0
      have r1 : w6.cell? ⟨w.heap.size + 2, 1, none⟩ = some (.int .i64 0) := hR6'.cell 1
      have r2 : w6.cell? ⟨w.heap.size + 2, 2, none⟩ = some (.int .i64 0) := hR6'.cell 2
      go_wp2
      refine bodyPost_ret (v := .tuple #[.agg #[.int .i64 0, .int .i64 0, .int .i64 0], .int .i64 5]) (by simp [results, Tryz.results149, go_sem, r0, r1, r2]) rfl ⟨by rw [QP.out, QZ.out], hb05.grown hg6 hb05.size (fun k hk => by injection hk with hk; omega)⟩
    · have QZ := Lib.hid (show resCode b p k = 0 by rw [hcy, if_neg h0])
      have QP := Lib.hid (show resParts b p k = [.int .i64 (partT b p k), .int .i64 (partB b p k), .int .i64 (partD b p k)] by unfold resParts; rw [QZ.out]; rfl)
      have H1e : Hid (∀ v ∈ ([.int .i64 (partT b p k), .int .i64 (partB b p k), .int .i64 (partD b p k)] : List Value), v.oneCell' = true) := Lib.hid (by simp [Value.oneCell'])
      have QB : (partD b p k == 0) = false := by simp [h0]
      go_wp2_with (first | (refine wpList_load_agg rfl 99 _ rfl ⟨G5, 0, none⟩ rfl [.int .i64 (partT b p k), .int .i64 (partB b p k), .int .i64 (partD b p k)] hcR.out _ Tryz.underlying99 rfl ReserveParts.size ?_) | (refine wpList_store_agg rfl 99 _ _ rfl (w.heap.size + 2) 0 [.int .i64 (partT b p k), .int .i64 (partB b p k), .int .i64 (partD b p k)] rfl rfl 99 #[.int .i64 0, .int .i64 0, .int .i64 0] HR5.out ReserveParts.size (by simp) H1e.out ?_))
      intro w6 hR6 hg6 _
      have hR6' : Blk w6 (w.heap.size + 2) 99 #[.int .i64 (partT b p k), .int .i64 (partB b p k), .int .i64 (partD b p k)] := hR6
      have r0 : w6.cell? ⟨w.heap.size + 2, 0, none⟩ = some (.int .i64 (partT b p k)) := hR6'.cell 0
      have r1 : w6.cell? ⟨w.heap.size + 2, 1, none⟩ = some (.int .i64 (partB b p k)) := hR6'.cell 1
      have r2 : w6.cell? ⟨w.heap.size + 2, 2, none⟩ = some (.int .i64 (partD b p k)) := hR6'.cell 2
      go_wp2
      refine bodyPost_ret (v := .tuple #[.agg #[.int .i64 (partT b p k), .int .i64 (partB b p k), .int .i64 (partD b p k)], .int .i64 0]) (by simp [results, Tryz.results149, go_sem, r0, r1, r2]) rfl ⟨by rw [QP.out, QZ.out], hb05.grown hg6 hb05.size (fun k hk => by injection hk with hk; omega)⟩
  · have hK : Blk (((w4.setCell ⟨w2.heap.size, 0, none⟩ (.int .i64 (partT b p k))).setCell ⟨w2.heap.size, 1, none⟩ (.int .i64 (partB b p k))).setCell ⟨w2.heap.size, 2, none⟩ (.int .i64 (partD b p k))) (w2.heap.size) 99 #[.int .i64 (partT b p k), .int .i64 (partB b p k), .int .i64 (partD b p k)] := by simpa using ((HZ4.out.set_ 0 (.int .i64 (partT b p k))).set_ 1 (.int .i64 (partB b p k))).set_ 2 (.int .i64 (partD b p k))
    have hGle : w2.heap.size ≤ w2.heap.size := Nat.le_refl _
    have HW := Lib.hid (And.intro hE (And.intro hK hGle)); clear hK hGle hE
    generalize (((w4.setCell ⟨w2.heap.size, 0, none⟩ (.int .i64 (partT b p k))).setCell ⟨w2.heap.size, 1, none⟩ (.int .i64 (partB b p k))).setCell ⟨w2.heap.size, 2, none⟩ (.int .i64 (partD b p k))) = W5 at HW ⊢
    obtain ⟨hE, hK, hGle⟩ := HW.out
    have HE := Lib.hid hE; have HK := Lib.hid hK
    have c2 : W5.cell? ⟨w2.heap.size, 2, none⟩ = some (.int .i64 (partD b p k)) := hK.cell 2
    have HR5 := Lib.hid (HR2.out.below' hE)
    have hb05 := hb02.trans (hE.mono hb02.size)
    have hcR := Lib.hid (Blk.agg (cs := [.int .i64 (partT b p k), .int .i64 (partB b p k), .int .i64 (partD b p k)]) hK 0 [.int .i64 (partT b p k), .int .i64 (partB b p k), .int .i64 (partD b p k)] rfl)
    clear hE hK
    by_cases h0 : partD b p k = 0
    · have QZ := Lib.hid (show resCode b p k = 5 by rw [hcy, if_pos h0])
      have QP := Lib.hid (show resParts b p k = [.int .i64 0, .int .i64 0, .int .i64 0] by unfold resParts; rw [QZ.out]; rfl)
      have QB : (partD b p k == 0) = true := by simp [h0]
      go_wp2_with (refine wpList_store_agg rfl 99 _ _ rfl (w.heap.size + 2) 0 [.int .i64 0, .int .i64 0, .int .i64 0] rfl rfl 99 #[.int .i64 0, .int .i64 0, .int .i64 0] HR5.out ReserveParts.size (by simp) H1d.out ?_)
      intro w6 hR6 hg6 _
      have hR6' : Blk w6 (w.heap.size + 2) 99 #[.int .i64 0, .int .i64 0, .int .i64 0] := hR6
      have r0 : w6.cell? ⟨w.heap.size + 2, 0, none⟩ = some (.int .i64 0) := hR6'.cell 0
      have r1 : w6.cell? ⟨w.heap.size + 2, 1, none⟩ = some (.int .i64 0) := hR6'.cell 1
      have r2 : w6.cell? ⟨w.heap.size + 2, 2, none⟩ = some (.int .i64 0) := hR6'.cell 2
      go_wp2
      refine bodyPost_ret (v := .tuple #[.agg #[.int .i64 0, .int .i64 0, .int .i64 0], .int .i64 5]) (by simp [results, Tryz.results149, go_sem, r0, r1, r2]) rfl ⟨by rw [QP.out, QZ.out], hb05.grown hg6 hb05.size (fun k hk => by injection hk with hk; omega)⟩
    · have QZ := Lib.hid (show resCode b p k = 0 by rw [hcy, if_neg h0])
      have QP := Lib.hid (show resParts b p k = [.int .i64 (partT b p k), .int .i64 (partB b p k), .int .i64 (partD b p k)] by unfold resParts; rw [QZ.out]; rfl)
      have H1e : Hid (∀ v ∈ ([.int .i64 (partT b p k), .int .i64 (partB b p k), .int .i64 (partD b p k)] : List Value), v.oneCell' = true) := Lib.hid (by simp [Value.oneCell'])
      have QB : (partD b p k == 0) = false := by simp [h0]
      go_wp2_with (first | (refine wpList_load_agg rfl 99 _ rfl ⟨w2.heap.size, 0, none⟩ rfl [.int .i64 (partT b p k), .int .i64 (partB b p k), .int .i64 (partD b p k)] hcR.out _ Tryz.underlying99 rfl ReserveParts.size ?_) | (refine wpList_store_agg rfl 99 _ _ rfl (w.heap.size + 2) 0 [.int .i64 (partT b p k), .int .i64 (partB b p k), .int .i64 (partD b p k)] rfl rfl 99 #[.int .i64 0, .int .i64 0, .int .i64 0] HR5.out ReserveParts.size (by simp) H1e.out ?_))
      intro w6 hR6 hg6 _
      have hR6' : Blk w6 (w.heap.size + 2) 99 #[.int .i64 (partT b p k), .int .i64 (partB b p k), .int .i64 (partD b p k)] := hR6
      have r0 : w6.cell? ⟨w.heap.size + 2, 0, none⟩ = some (.int .i64 (partT b p k)) := hR6'.cell 0
      have r1 : w6.cell? ⟨w.heap.size + 2, 1, none⟩ = some (.int .i64 (partB b p k)) := hR6'.cell 1
      have r2 : w6.cell? ⟨w.heap.size + 2, 2, none⟩ = some (.int .i64 (partD b p k)) := hR6'.cell 2
      go_wp2
      refine bodyPost_ret (v := .tuple #[.agg #[.int .i64 (partT b p k), .int .i64 (partB b p k), .int .i64 (partD b p k)], .int .i64 0]) (by simp [results, Tryz.results149, go_sem, r0, r1, r2]) rfl ⟨by rw [QP.out, QZ.out], hb05.grown hg6 hb05.size (fun k hk => by injection hk with hk; omega)⟩

end Go.Proofs.YtbjdbpdgacfcpaaGreat
end

/- Portfolios: the program's contracts. -/
section
namespace Go.Proofs.YtbjdbpdgacfcpaaGreat
open Go.RowKit Go.BigFrame

theorem resParts_three (b : Bas) (p : Policy) (k : Int) : ∃ x y z : Int, resParts b p k = [.int .i64 x, .int .i64 y, .int .i64 z] := by
  unfold resParts; split <;> exact ⟨_, _, _, rfl⟩
theorem portB_any (b : Bas) (xs : List Holding) : portB b xs = (basisB b && (decide (xs.length ≤ 30) && !xs.any fun h => !holdB b h)) := by
  unfold portB; congr 2; induction xs with
  | nil => rfl
  | cons x r ih => simp [ih]
set_option maxHeartbeats 2000000 in
theorem impl_isHolding_any (b : Bas) (A : Option Addr) (n cap : Nat) (h : Holding) (w : World) (hB : BasT w A n cap b) (hf : h.fits) :
    Calls Tryz.prog 96 #[.agg #[.int .i64 b.first, .slice A n cap, .int .i64 b.rate], .agg h.row.toArray] w fun e w' => e = .returned (.bool (holdB b h)) ∧ Below w.heap.size w w' := by
  have hbw : Below w.heap.size w ((w.alloc (.cells #[.int .i64 b.first, .slice A n cap, .int .i64 b.rate] 28)).alloc (.cells #[.int .i64 h.kind, .int .i64 h.age, .int .i64 h.years, .int .i64 h.sum, .int .i64 h.load, .int .i64 h.year, .int .i64 h.count] 90)) := ((Below.refl _ w).alloc (Nat.le_refl _) _).alloc (by simp) _
  have HB := Lib.hid ((Blk.new w 28 #[.int .i64 b.first, .slice A n cap, .int .i64 b.rate]).alloc (.cells #[.int .i64 h.kind, .int .i64 h.age, .int .i64 h.years, .int .i64 h.sum, .int .i64 h.load, .int .i64 h.year, .int .i64 h.count] 90))
  have HH := Lib.hid (Blk.new (w.alloc (.cells #[.int .i64 b.first, .slice A n cap, .int .i64 b.rate] 28)) 90 #[.int .i64 h.kind, .int .i64 h.age, .int .i64 h.years, .int .i64 h.sum, .int .i64 h.load, .int .i64 h.year, .int .i64 h.count])
  rw [World.size_alloc] at HH
  have HBT := Lib.hid (hB.past hbw); clear hB
  have HF := Lib.hid (Holding.fits_pol hf); clear hf
  unfold Holding.row at *
  have hcB := Lib.hid (Blk.agg (cs := [.int .i64 b.first, .slice A n cap, .int .i64 b.rate]) HB.out 0 [.int .i64 b.first, .slice A n cap, .int .i64 b.rate] rfl)
  have hcP := Lib.hid (Blk.agg (cs := [.int .i64 h.kind, .int .i64 h.age, .int .i64 h.years, .int .i64 h.sum, .int .i64 h.load, .int .i64 h.year, .int .i64 h.count]) HH.out 0 [.int .i64 h.kind, .int .i64 h.age, .int .i64 h.years, .int .i64 h.sum, .int .i64 h.load] rfl)
  cases hcn : inR h.count 0 1000000
  · have Q := Lib.hid (show holdB b h = false by simp [holdB, hcn])
    go_enter Tryz.func96, Tryz.ntmps96
    go_wp2_with (first | (go_at_call 82; refine (impl_inRange_any _ _ _ _).mono ?_; rintro e w' ⟨rfl, rfl⟩))
    go_ret
    exact ⟨by rw [Q.out]; rfl, hbw⟩
  have Q := Lib.hid (show holdB b h = (resCode b h.pol h.year == 0) by simp [holdB, hcn])
  obtain ⟨x, y, z, he⟩ := resParts_three b h.pol h.year
  have HE := Lib.hid he; clear he
  go_enter Tryz.func96, Tryz.ntmps96
  go_wp2_with (first | (refine wpList_load_agg rfl 28 _ rfl ⟨w.heap.size, 0, none⟩ rfl [.int .i64 b.first, .slice A n cap, .int .i64 b.rate] hcB.out _ Tryz.underlying28 rfl Bas.size ?_) | (refine wpList_load_agg rfl 88 _ rfl ⟨w.heap.size + 1, 0, none⟩ rfl [.int .i64 h.kind, .int .i64 h.age, .int .i64 h.years, .int .i64 h.sum, .int .i64 h.load] hcP.out _ Tryz.underlying88 rfl Policy.size ?_) | (go_at_call 82; refine (impl_inRange_any _ _ _ _).mono ?_; rintro e w' ⟨rfl, rfl⟩))
  refine (impl_checkReserve_any b A n cap h.pol h.year _ HBT.out HF.out.1 HF.out.2.1).mono ?_
  rw [HE.out]
  rintro e w1 ⟨rfl, hb1⟩
  go_wp2
  go_ret
  exact ⟨by rw [Q.out]; first | rfl | simp, hbw.trans ((hb1.mono hbw.size).alloc (by have := hb1.size; have := hbw.size; omega) _)⟩

set_option maxHeartbeats 2000000 in
theorem impl_IsPortfolio1_any (b : Bas) (A : Option Addr) (n cap : Nat) (h : Holding) (g : Nat) (w : World) (hB : BasT w A n cap b) (hf : h.fits) (hG : Blk w g 28 #[.int .i64 b.first, .slice A n cap, .int .i64 b.rate]) :
    Calls Tryz.prog 95 #[.agg h.row.toArray, .pointer (some ⟨g, 0, none⟩)] w fun e w' => e = .returned (.bool (!holdB b h)) ∧ Below w.heap.size w w' := by
  have hbw : Below w.heap.size w (w.alloc (.cells #[.int .i64 h.kind, .int .i64 h.age, .int .i64 h.years, .int .i64 h.sum, .int .i64 h.load, .int .i64 h.year, .int .i64 h.count] 90)) := (Below.refl _ w).alloc (Nat.le_refl _) _
  have HB := Lib.hid (hG.alloc (.cells #[.int .i64 h.kind, .int .i64 h.age, .int .i64 h.years, .int .i64 h.sum, .int .i64 h.load, .int .i64 h.year, .int .i64 h.count] 90)); clear hG
  have HH := Lib.hid (Blk.new w 90 #[.int .i64 h.kind, .int .i64 h.age, .int .i64 h.years, .int .i64 h.sum, .int .i64 h.load, .int .i64 h.year, .int .i64 h.count])
  have HBT := Lib.hid (hB.past hbw); clear hB
  have HF := Lib.hid hf; clear hf
  unfold Holding.row at *
  have hcB := Lib.hid (Blk.agg (cs := [.int .i64 b.first, .slice A n cap, .int .i64 b.rate]) HB.out 0 [.int .i64 b.first, .slice A n cap, .int .i64 b.rate] rfl)
  have hcH := Lib.hid (Blk.agg (cs := [.int .i64 h.kind, .int .i64 h.age, .int .i64 h.years, .int .i64 h.sum, .int .i64 h.load, .int .i64 h.year, .int .i64 h.count]) HH.out 0 [.int .i64 h.kind, .int .i64 h.age, .int .i64 h.years, .int .i64 h.sum, .int .i64 h.load, .int .i64 h.year, .int .i64 h.count] rfl)
  go_enter Tryz.func95, Tryz.ntmps95
  go_wp2_with (first | (refine wpList_load_agg rfl 28 _ rfl ⟨g, 0, none⟩ rfl [.int .i64 b.first, .slice A n cap, .int .i64 b.rate] hcB.out _ Tryz.underlying28 rfl Bas.size ?_) | (refine wpList_load_agg rfl 90 _ rfl ⟨w.heap.size, 0, none⟩ rfl [.int .i64 h.kind, .int .i64 h.age, .int .i64 h.years, .int .i64 h.sum, .int .i64 h.load, .int .i64 h.year, .int .i64 h.count] hcH.out _ Tryz.underlying90 rfl Holding.size ?_))
  refine (impl_isHolding_any b A n cap h _ HBT.out HF.out).mono ?_
  rintro e w1 ⟨rfl, hb1⟩
  go_wp2
  go_ret
  exact ⟨rfl, hbw.trans (hb1.mono hbw.size)⟩

set_option maxHeartbeats 2000000 in
theorem indexHolding_any (b : Bas) (A : Option Addr) (n cap : Nat) (H : Option Addr) (m hcap : Nat) (xs : List Holding) (g : Nat) (w : World) (hB : BasT w A n cap b) (hl : xs.length = m) (hm : m ≤ 1048576) (hX : Rd w w.heap.size H 7 (holdingRows xs)) (hf : ∀ x ∈ xs, x.fits) (hG : Blk w g 28 #[.int .i64 b.first, .slice A n cap, .int .i64 b.rate]) :
    Calls Tryz.prog 148 #[.slice H m hcap, .func (.func 95) #[] #[.pointer (some ⟨g, 0, none⟩)]] w fun e w' => ∃ i : Int, e = .returned (.int .i64 i) ∧ (xs.any (fun h => !holdB b h) = decide (0 ≤ i)) ∧ Below w.heap.size w w' := by
  have HX := Lib.hid hX; clear hX
  have HL := Lib.hid hl; clear hl
  have HB := Lib.hid hG; clear hG
  have HBT := Lib.hid hB; clear hB
  have HF := Lib.hid hf; clear hf
  go_enter Tryz.func148, Tryz.ntmps148
  go_wp2
  go_loopw [8] (fun i wr => ∃ k : Nat, k ≤ m ∧ i = .int .i64 k ∧ (xs.take k).any (fun h => !holdB b h) = false ∧ Below w.heap.size w wr) (fun i _ => m - (intOf i).toNat)
  case atStart => exact ⟨0, by omega, rfl, rfl, Below.refl _ _⟩
  case round =>
    obtain ⟨k, hk, rfl, hany, hb⟩ := hrel
    have HA := Lib.hid hany; clear hany
    by_cases hlt : k < m
    · obtain ⟨x, hx⟩ := get_of_lt (xs := xs) (k := k) (by rw [HL.out]; exact hlt)
      obtain ⟨ad, rfl, had, _, hc⟩ := (HX.out.below hb).at' (holdingRows_get hx)
      have Hc := Lib.hid hc; clear hc
      have Hx := Lib.hid hx; clear hx
      go_wp2_with (refine wpList_load_agg rfl 90 _ rfl (ad.add (k * 7)) rfl x.row Hc.out _ Tryz.underlying90 rfl Holding.size ?_)
      refine (impl_IsPortfolio1_any b A n cap x g _ (HBT.out.past hb) (HF.out x (List.mem_of_getElem? Hx.out)) (HB.out.below' hb)).mono ?_
      rintro e w1 ⟨rfl, hb1⟩
      have hb2 : Below w.heap.size w w1 := hb.trans (hb1.mono hb.size)
      by_cases hp : holdB b x = true
      · go_wp2
        go_roundw
        case rel => exact ⟨k + 1, by omega, by go_num, any_succ HA.out Hx.out (by simp [hp]), hb2⟩
        case measure => simp [intOf]; omega
      · have hp' : holdB b x = false := by simpa using hp
        clear hp
        go_wp2
        go_ret
        exact ⟨_, rfl, by rw [any_stop Hx.out (by simp [hp'])]; simp, hb2⟩
    · have hkn : k = m := by omega
      subst hkn
      go_wp2
      go_ret
      exact ⟨_, rfl, by rw [any_end HL.out HA.out]; simp, hb⟩

theorem containsHolding_any (b : Bas) (A : Option Addr) (n cap : Nat) (H : Option Addr) (m hcap : Nat) (xs : List Holding) (g : Nat) (w : World) (hB : BasT w A n cap b) (hl : xs.length = m) (hm : m ≤ 1048576) (hX : Rd w w.heap.size H 7 (holdingRows xs)) (hf : ∀ x ∈ xs, x.fits) (hG : Blk w g 28 #[.int .i64 b.first, .slice A n cap, .int .i64 b.rate]) :
    Calls Tryz.prog 94 #[.slice H m hcap, .func (.func 95) #[] #[.pointer (some ⟨g, 0, none⟩)]] w fun e w' => e = .returned (.bool (xs.any fun h => !holdB b h)) ∧ Below w.heap.size w w' := by
  have HX := Lib.hid hX; clear hX
  have HL := Lib.hid hl; clear hl
  have HB := Lib.hid hG; clear hG
  have HBT := Lib.hid hB; clear hB
  have HF := Lib.hid hf; clear hf
  go_enter Tryz.func94, Tryz.ntmps94
  go_wp2_with fail
  refine (indexHolding_any b A n cap H m hcap xs g w HBT.out HL.out hm HX.out HF.out HB.out).mono ?_
  rintro e w1 ⟨i, rfl, hi, hb⟩
  have Hi := Lib.hid hi; clear hi
  go_wp2
  go_ret
  exact ⟨by rw [Hi.out]; rfl, hb⟩

set_option maxHeartbeats 2000000 in
theorem impl_IsPortfolio_any (b : Bas) (A : Option Addr) (n cap : Nat) (H : Option Addr) (m hcap : Nat) (xs : List Holding) (w : World) (hB : BasT w A n cap b) (hl : xs.length = m) (hm : m ≤ 1048576) (hX : Rd w w.heap.size H 7 (holdingRows xs)) (hf : ∀ x ∈ xs, x.fits) :
    Calls Tryz.prog 21 #[.agg #[.int .i64 b.first, .slice A n cap, .int .i64 b.rate], .slice H m hcap] w fun e w' => e = .returned (.bool (portB b xs)) ∧ Below w.heap.size w w' := by
  rw [portB_any]
  have hbw : Below w.heap.size w (w.alloc (.cells #[.int .i64 b.first, .slice A n cap, .int .i64 b.rate] 28)) := (Below.refl _ w).alloc (Nat.le_refl _) _
  have HB := Lib.hid (Blk.new w 28 #[.int .i64 b.first, .slice A n cap, .int .i64 b.rate])
  have HBT := Lib.hid (hB.past hbw); clear hB
  have HX := Lib.hid (hX.past hbw); clear hX
  have HF := Lib.hid hf; clear hf
  have hcB := Lib.hid (Blk.agg (cs := [.int .i64 b.first, .slice A n cap, .int .i64 b.rate]) HB.out 0 [.int .i64 b.first, .slice A n cap, .int .i64 b.rate] rfl)
  have HL := Lib.hid hl
  cases hbb : basisB b
  · go_enter Tryz.func21, Tryz.ntmps21
    go_wp2_with (refine wpList_load_agg rfl 28 _ rfl ⟨w.heap.size, 0, none⟩ rfl [.int .i64 b.first, .slice A n cap, .int .i64 b.rate] hcB.out _ Tryz.underlying28 rfl Bas.size ?_)
    refine (impl_IsBasis_any b A n cap _ HBT.out).mono ?_
    rw [hbb]
    rintro e w1 ⟨rfl, hb1⟩
    go_wp2
    go_ret
    exact ⟨by first | rfl | simp, hbw.trans (hb1.mono hbw.size)⟩
  by_cases h : m ≤ 30
  · have Q := Lib.hid (show (decide (xs.length ≤ 30) && !xs.any fun h => !holdB b h) = !xs.any fun h => !holdB b h by simp [hl, h])
    clear hl
    go_enter Tryz.func21, Tryz.ntmps21
    go_wp2_with (refine wpList_load_agg rfl 28 _ rfl ⟨w.heap.size, 0, none⟩ rfl [.int .i64 b.first, .slice A n cap, .int .i64 b.rate] hcB.out _ Tryz.underlying28 rfl Bas.size ?_)
    refine (impl_IsBasis_any b A n cap _ HBT.out).mono ?_
    rw [hbb]
    rintro e w1 ⟨rfl, hb1⟩
    have hb01 := hbw.trans (hb1.mono hbw.size)
    go_wp2_with fail
    refine (containsHolding_any b A n cap H m hcap xs w.heap.size _ (HBT.out.past hb1) HL.out hm (HX.out.past hb1) HF.out (HB.out.below' hb1)).mono ?_
    rintro e w2 ⟨rfl, hb2⟩
    go_wp2
    go_ret
    exact ⟨by (try rw [Bool.true_and]); rw [Q.out]; first | rfl | simp, hb01.trans (hb2.mono hb01.size)⟩
  · have Q := Lib.hid (show (decide (xs.length ≤ 30) && !xs.any fun h => !holdB b h) = false by simp [hl, h])
    clear hl
    go_enter Tryz.func21, Tryz.ntmps21
    go_wp2_with (refine wpList_load_agg rfl 28 _ rfl ⟨w.heap.size, 0, none⟩ rfl [.int .i64 b.first, .slice A n cap, .int .i64 b.rate] hcB.out _ Tryz.underlying28 rfl Bas.size ?_)
    refine (impl_IsBasis_any b A n cap _ HBT.out).mono ?_
    rw [hbb]
    rintro e w1 ⟨rfl, hb1⟩
    go_wp2
    go_ret
    exact ⟨by (try rw [Bool.true_and]); rw [Q.out]; rfl, hbw.trans (hb1.mono hbw.size)⟩

end Go.Proofs.YtbjdbpdgacfcpaaGreat
end
