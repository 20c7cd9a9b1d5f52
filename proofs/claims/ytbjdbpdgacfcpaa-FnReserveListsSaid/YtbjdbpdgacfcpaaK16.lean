/- Parts of a proof, one after another: DrawLaw, Lv1, RlQ, DurW, LvQ, Rl2. No condition. -/
import Derived.Test.YtbjdbpdgacfcpaaK1
import Derived.Test.YtbjdbpdgacfcpaaK2
import Derived.Test.YtbjdbpdgacfcpaaK12
import Derived.Test.YtbjdbpdgacfcpaaK13
import Derived.Test.YtbjdbpdgacfcpaaK14
import Derived.Test.YtbjdbpdgacfcpaaK15
import Derived.Deep.RegionLaw
/- How a law that draws opens its code, and from its walk to its row. No condition. -/
section
namespace Go.Proofs.Ytbjdbpdgacfcpaa
open Go.ChangeShapes Go.WideShapes Go.ChangeAt Go.RowKit Go.Deep

section
variable {H : Type} {enc : TypeId × Value → H} {P : Program} {w : World} {base : Nat} {spare : Nat → Bool} {held : Bool}
theorem open_code {t e : TypeId} {fuel n cap : Nat} {A : Option Addr} {x : DataW H × List MemPlace} (ht : P.underlying t = some (.slice e)) (he : P.underlying e = some (.int .u8)) (hC : P.cellsOf e = 1)
    (h : DataW.trod enc P w base spare held fuel t [.slice A n cap] = some x) :
    ∃ bs : List Int, bs.length = n ∧ (∀ z ∈ bs, 0 ≤ z ∧ z ≤ 255) ∧ Rd w w.heap.size A 1 (byteRows bs) ∧ n ≤ 9223372036854775807 := by
  rcases open_slice ht h with ⟨h0, _⟩ | ⟨a, len, cap', m', n', D, Pl, hcs, hb, hl, hmx, hmm, _, hel⟩
  · simp only [List.cons.injEq, Value.slice.injEq, and_true] at h0
    obtain ⟨rfl, rfl, _⟩ := h0
    exact ⟨[], rfl, by simp, .inl rfl, by omega⟩
  · simp only [List.cons.injEq, Value.slice.injEq, and_true] at hcs
    obtain ⟨rfl, rfl, rfl⟩ := hcs
    have hle : n ≤ m' := by rw [hmm]; split <;> omega
    have each : ∀ i : Nat, i < n → ∃ z : Int, (0 ≤ z ∧ z ≤ 255) ∧ w.cell? (a.add i) = some (.int .u8 z) := by
      intro i hin
      obtain ⟨cs', hc, htr⟩ := hel i (by omega)
      obtain ⟨z, rfl, _, wn⟩ := DataW.trod_int he htr
      obtain ⟨_, hcl, hat⟩ := World.cells?_some hc
      have := hat 0 (by rw [hC]; omega)
      rw [hC, add_of_add] at this
      refine ⟨z, ?_, by simpa using this⟩
      simpa [Lit.wf, IntKind.min, IntKind.max, IntKind.signed, IntKind.bits] using wn
    obtain ⟨bs, hbl, hbs⟩ := list_of n each
    have hmx' : n ≤ 9223372036854775807 := by unfold maxLen at *; omega
    refine ⟨bs, hbl, fun z hz => ?_, ?_, hmx'⟩
    · obtain ⟨i, hi', rfl⟩ := List.getElem_of_mem hz
      exact (hbs i _ (List.getElem?_eq_getElem hi')).1
    · rcases Nat.eq_zero_or_pos n with h0 | h0
      · have : bs = [] := List.eq_nil_of_length_eq_zero (by omega)
        subst this; exact .inl rfl
      · have hblk : a.block < w.heap.size := by
          obtain ⟨z, hz⟩ := get_of_lt (xs := bs) (k := 0) (by omega)
          have := block_lt_of_cell (hbs 0 z hz).2
          rwa [block_of_add] at this
        refine .inr ⟨a, rfl, hblk, fun k r hk => ?_⟩
        simp only [byteRows, List.getElem?_map, Option.map_eq_some_iff] at hk
        obtain ⟨z, hk, rfl⟩ := hk
        refine ⟨rfl, fun j v hv => ?_⟩
        have hj : j = 0 := by have := (List.getElem?_eq_some_iff.1 hv).1; simp at this; exact this
        subst hj
        simp only [List.getElem?_cons_zero, Option.some.injEq] at hv
        subst hv
        simpa using (hbs k z hk).2
end
theorem laws_big_any (A : Option Addr) (n cap : Nat) (w : World) (_hn : n ≤ 9223372036854775807) : Calls Try.prog 8 #[.slice A n cap] w fun e w' => e = .returned (.bool (decide (4096 < n))) ∧ w = w' := by
  by_cases h : 4096 < n
  · go_enter Try.func8, Try.ntmps8
    go_wp2
    go_ret
    exact ⟨by simp; omega, rfl⟩
  · go_enter Try.func8, Try.ntmps8
    go_wp2
    go_ret
    exact ⟨by simp; omega, rfl⟩
end Go.Proofs.Ytbjdbpdgacfcpaa
end

/- What leaving gives: the common check (printed by lv.py). -/
section
namespace Go.Proofs.Ytbjdbpdgacfcpaa
open Go.RowKit Go.BigFrame

theorem Leaving.size : (Try.prog.info? 95).map (·.size) = some 5 := by kernel_rfl
theorem impl_perMille_any (a r : Int) (h : 0 ≤ a * r ∧ a * r ≤ 200000000000) (w : World) :
    Calls Try.prog 93 #[.int .i64 a, .int .i64 r] w fun e w' => e = .returned (.int .i64 (a * r / 1000)) ∧ w = w' := by
  obtain ⟨h1, h2⟩ := h
  go_enter Try.func93, Try.ntmps93
  go_wp2_with (first | (go_at_call 132; refine (impl_down_any _ _ _ (by omega) (by omega) (by omega) (by omega)).mono ?_; rintro e w' ⟨rfl, rfl⟩))
  go_ret
  exact ⟨rfl, rfl⟩
theorem box3 {w : World} {tx ty tz : TypeId} {X Y Z : List Value} : Below w.heap.size w (((w.alloc (.cells X.toArray tx)).alloc (.cells Y.toArray ty)).alloc (.cells Z.toArray tz)) ∧ Rd (((w.alloc (.cells X.toArray tx)).alloc (.cells Y.toArray ty)).alloc (.cells Z.toArray tz)) (((w.alloc (.cells X.toArray tx)).alloc (.cells Y.toArray ty)).alloc (.cells Z.toArray tz)).heap.size (some ⟨w.heap.size, 0, none⟩) X.length [X] ∧
    Rd (((w.alloc (.cells X.toArray tx)).alloc (.cells Y.toArray ty)).alloc (.cells Z.toArray tz)) (((w.alloc (.cells X.toArray tx)).alloc (.cells Y.toArray ty)).alloc (.cells Z.toArray tz)).heap.size (some ⟨w.heap.size + 1, 0, none⟩) Y.length [Y] ∧ Blk (((w.alloc (.cells X.toArray tx)).alloc (.cells Y.toArray ty)).alloc (.cells Z.toArray tz)) (w.heap.size + 2) tz Z.toArray := by
  obtain ⟨h1, h2, h3⟩ := box2 (w := w) (tx := tx) (ty := ty) (X := X) (Y := Y)
  have h4 := Blk.new ((w.alloc (.cells X.toArray tx)).alloc (.cells Y.toArray ty)) tz Z.toArray
  simp only [World.size_alloc] at h4
  have h5 : Below ((w.alloc (.cells X.toArray tx)).alloc (.cells Y.toArray ty)).heap.size ((w.alloc (.cells X.toArray tx)).alloc (.cells Y.toArray ty)) (((w.alloc (.cells X.toArray tx)).alloc (.cells Y.toArray ty)).alloc (.cells Z.toArray tz)) := (Below.refl _ _).alloc (Nat.le_refl _) _
  exact ⟨h1.trans (h5.mono h1.size), h2.past h5, h3.past h5, h4⟩
theorem leav_ok {b : Bas} {p : Policy} {k : Int} (h : leavCode b p k = 0) : resCode b p k = 0 ∧ 2 ≤ k := by
  unfold leavCode at h
  by_cases h0 : resCode b p k = 0
  · rw [if_pos h0] at h
    refine ⟨h0, ?_⟩
    by_cases h2 : k < 2
    · rw [if_pos h2] at h; simp at h
    · omega
  · rw [if_neg h0] at h; exact absurd h h0
theorem val_bound {b : Bas} {p : Policy} {k : Int} (Y : YearOk b p k) : (0 ≤ resAt b p k ∧ resAt b p k ≤ 100000001) ∧ (0 ≤ valV b p k ∧ valV b p k ≤ resAt b p k) := by
  have h := res_bound Y
  refine ⟨h, ?_⟩
  unfold valV
  omega
set_option maxRecDepth 20000 in
set_option maxHeartbeats 8000000 in
theorem impl_checkLeaving_ok (b : Bas) (A : Option Addr) (n cap : Nat) (p : Policy) (k : Int) (w : World) (hB : BasT w A n cap b) (hp : p.fits) (hk : In64 k) (h : leavCode b p k = 0) :
    Calls Try.prog 87 #[.agg #[.int .i64 b.first, .slice A n cap, .int .i64 b.rate], .agg p.row.toArray, .int .i64 k] w fun e w' => e = .returned (.tuple #[.agg #[.int .i64 (partT b p k), .int .i64 (partB b p k), .int .i64 (partD b p k), .int .i64 (resAt b p k), .int .i64 (valV b p k)], .int .i64 0]) ∧ Below w.heap.size w w' := by
  unfold Policy.row
  have HB := Lib.hid (Below.refl w.heap.size w)
  have HH := Lib.hid (Held.nil w)
  have HT := Lib.hid hB; clear hB
  obtain ⟨hb, hr0, hr1, hz⟩ := box3 (w := w) (tx := 28) (ty := 35) (tz := 95) (X := [.int .i64 b.first, .slice A n cap, .int .i64 b.rate]) (Y := [.int .i64 p.kind, .int .i64 p.age, .int .i64 p.years, .int .i64 p.sum, .int .i64 p.load]) (Z := [.int .i64 0, .int .i64 0, .int .i64 0, .int .i64 0, .int .i64 0])
  replace HB := Lib.hid (below_all HB.out hb)
  replace HT := Lib.hid (HT.out.past hb)
  replace HH := Lib.hid (((HH.out.past hb).cons hr0).cons hr1)
  have HZ := Lib.hid hz
  clear hb hr0 hr1 hz
  obtain ⟨h0, h2⟩ := leav_ok h
  clear h
  have HY := Lib.hid (year_ok h0)
  have HPO := Lib.hid (part_ok HY.out (net_bound HY.out.toPolOk))
  have HPB := Lib.hid (res_pol h0)
  have H0 := Lib.hid h0
  obtain ⟨⟨r0, r1⟩, v0, v1⟩ := val_bound HY.out
  have HV := Lib.hid (show valV b p k = resAt b p k * 900 / 1000 from rfl)
  clear h0
  obtain ⟨R, hR⟩ : ∃ R, R = resAt b p k := ⟨_, rfl⟩
  rw [← hR] at r0 r1 v1 HV ⊢
  have HRE := Lib.hid (show roundP (fwdP p.sum (partT b p k) (netP b p) (partB b p k) (partD b p k)) = R from hR.symm)
  clear hR
  have hv1 : R * 900 / 1000 = valV b p k := HV.out.symm
  generalize valV b p k = V at hv1 v0 v1 ⊢
  have HV1 := Lib.hid hv1; clear hv1 HV
  go_enter Try.func87, Try.ntmps87
  have HL_bx := Lib.hid (Rd.box (HH.out.get 1 rfl))
  have HL_px := Lib.hid (Rd.box (HH.out.get 0 rfl))
  go_wp2_with (first | (refine wpList_load_agg rfl 28 _ rfl ⟨w.heap.size, 0, none⟩ rfl [.int .i64 b.first, .slice A n cap, .int .i64 b.rate] HL_bx.out _ Try.underlying28 rfl Bas.size ?_) | (refine wpList_load_agg rfl 35 _ rfl ⟨w.heap.size + 1, 0, none⟩ rfl [.int .i64 p.kind, .int .i64 p.age, .int .i64 p.years, .int .i64 p.sum, .int .i64 p.load] HL_px.out _ Try.underlying35 rfl Policy.size ?_))
  clear HL_bx HL_px
  have HWZ := Lib.hid (show w.heap.size ≤ w.heap.size + 2 by omega)
  generalize (((w.alloc (.cells #[.int .i64 b.first, .slice A n cap, .int .i64 b.rate] 28)).alloc (.cells #[.int .i64 p.kind, .int .i64 p.age, .int .i64 p.years, .int .i64 p.sum, .int .i64 p.load] 35)).alloc (.cells #[.int .i64 0, .int .i64 0, .int .i64 0, .int .i64 0, .int .i64 0] 95)) = v0 at HB HH HT HZ ⊢
  generalize w.heap.size + 2 = gz at HZ HWZ ⊢
  generalize w.heap.size + 1 = g0_1 at HH ⊢
  generalize hg00 : w.heap.size = g0_0 at HH ⊢
  clear hg00
  refine (impl_checkReserve_ok b A n cap p k _ HT.out hp hk H0.out).mono ?_
  rintro e w1 ⟨rfl, hb⟩
  replace HZ := Lib.hid (HZ.out.below' hb)
  replace HB := Lib.hid (below_all HB.out hb)
  replace HT := Lib.hid (HT.out.past hb)
  replace HH := Lib.hid (HH.out.past hb)
  clear hb
  obtain ⟨hb, hr0⟩ := box1 (w := w1) (tx := 90) (X := [.int .i64 (partT b p k), .int .i64 (partB b p k), .int .i64 (partD b p k)])
  replace HB := Lib.hid (below_all HB.out hb)
  replace HT := Lib.hid (HT.out.past hb)
  replace HH := Lib.hid ((HH.out.past hb).cons hr0)
  clear hb hr0
  have hba : Below w1.heap.size w1 (w1.alloc (.cells #[.int .i64 (partT b p k), .int .i64 (partB b p k), .int .i64 (partD b p k)] 90)) := (Below.refl _ w1).alloc (Nat.le_refl _) _
  replace HZ := Lib.hid (HZ.out.below' hba); clear hba
  go_upto_region 6 with fail
  generalize (w1.alloc (.cells #[.int .i64 (partT b p k), .int .i64 (partB b p k), .int .i64 (partD b p k)] 90)) = v1 at HB HH HT HZ ⊢
  generalize w1.heap.size = g1_0 at HH ⊢
  have p0 : v1.cell? ⟨g0_1, 0, none⟩ = some (.int .i64 p.kind) := Rd.bcell (HH.out.get 1 rfl) 0 rfl
  have p1 : v1.cell? ⟨g0_1, 1, none⟩ = some (.int .i64 p.age) := Rd.bcell (HH.out.get 1 rfl) 1 rfl
  have p2 : v1.cell? ⟨g0_1, 2, none⟩ = some (.int .i64 p.years) := Rd.bcell (HH.out.get 1 rfl) 2 rfl
  have p3 : v1.cell? ⟨g0_1, 3, none⟩ = some (.int .i64 p.sum) := Rd.bcell (HH.out.get 1 rfl) 3 rfl
  have p4 : v1.cell? ⟨g0_1, 4, none⟩ = some (.int .i64 p.load) := Rd.bcell (HH.out.get 1 rfl) 4 rfl
  have d3 := fun y : Past v1 => Past.cell p3 y
  clear p0 p1 p2 p3 p4
  have hQ_bx := Lib.hid (Past.cells' (Rd.box (HH.out.get 2 rfl)))
  have hQ_px := Lib.hid (Past.cells' (Rd.box (HH.out.get 1 rfl)))
  have hQ_rp := Lib.hid (Past.cells' (Rd.box (HH.out.get 0 rfl)))
  refine wp_region_past (by kernel_rfl) (by kernel_rfl) ?_
  repeat (first | (go_big_quiet_want; (first | (first | (refine quiet_load_agg 28 _ rfl ⟨g0_0, 0, none⟩ rfl [.int .i64 b.first, .slice A n cap, .int .i64 b.rate] hQ_bx.out _ Try.underlying28 rfl Bas.size ?_) | (refine quiet_load_agg 35 _ rfl ⟨g0_1, 0, none⟩ rfl [.int .i64 p.kind, .int .i64 p.age, .int .i64 p.years, .int .i64 p.sum, .int .i64 p.load] hQ_px.out _ Try.underlying35 rfl Policy.size ?_) | (refine quiet_load_agg 90 _ rfl ⟨g1_0, 0, none⟩ rfl [.int .i64 (partT b p k), .int .i64 (partB b p k), .int .i64 (partD b p k)] hQ_rp.out _ Try.underlying90 rfl ReserveParts.size ?_))); go_simp; go_big_quiet_on) | go_big_quiet_step ((first | (go_at_call 85; exact past_call (impl_netPremium_any b A n cap p _ (HT.out.at_past _) HPB.out)) | (go_at_call 122; exact past_call ((impl_reserveParts_rounded_any p.sum (partT b p k) (netP b p) (partB b p k) (partD b p k) _ HPO.out).mono (by rw [HRE.out]; exact fun _ _ h => h))))))
  refine wpQuiet_nil ?_
  rintro _ ⟨y, rfl⟩
  have hb := y.2
  replace HZ := Lib.hid (HZ.out.below' hb)
  replace HB := Lib.hid (below_all HB.out hb)
  replace HT := Lib.hid (HT.out.past hb)
  replace HH := Lib.hid (HH.out.past hb)
  clear hb
  clear hQ_bx hQ_px hQ_rp
  go_upto_region 7 with fail
  obtain ⟨w5, hw5⟩ : ∃ w5, w5 = y.1 := ⟨_, rfl⟩
  rw [← hw5] at HB HH HT HZ ⊢
  clear hw5 y d3
  have p0 : w5.cell? ⟨g1_0, 0, none⟩ = some (.int .i64 (partT b p k)) := Rd.bcell (HH.out.get 0 rfl) 0 rfl
  have p1 : w5.cell? ⟨g1_0, 1, none⟩ = some (.int .i64 (partB b p k)) := Rd.bcell (HH.out.get 0 rfl) 1 rfl
  have p2 : w5.cell? ⟨g1_0, 2, none⟩ = some (.int .i64 (partD b p k)) := Rd.bcell (HH.out.get 0 rfl) 2 rfl
  have zc0 : w5.cell? ⟨gz, 0, none⟩ = some (.int .i64 0) := HZ.out.cell 0
  have zf0 : w5.frozen? ⟨gz, 0, none⟩ = false := HZ.out.frozen 0
  have zc1 : w5.cell? ⟨gz, 1, none⟩ = some (.int .i64 0) := HZ.out.cell 1
  have zf1 : w5.frozen? ⟨gz, 1, none⟩ = false := HZ.out.frozen 1
  have zc2 : w5.cell? ⟨gz, 2, none⟩ = some (.int .i64 0) := HZ.out.cell 2
  have zf2 : w5.frozen? ⟨gz, 2, none⟩ = false := HZ.out.frozen 2
  have zc3 : w5.cell? ⟨gz, 3, none⟩ = some (.int .i64 0) := HZ.out.cell 3
  have zf3 : w5.frozen? ⟨gz, 3, none⟩ = false := HZ.out.frozen 3
  have zc4 : w5.cell? ⟨gz, 4, none⟩ = some (.int .i64 0) := HZ.out.cell 4
  have zf4 : w5.frozen? ⟨gz, 4, none⟩ = false := HZ.out.frozen 4
  go_region_law (go_simp; go_at_call 93; refine (impl_perMille_any R 900 ⟨by omega, by omega⟩ _).mono ?_; rw [HV1.out]; rintro e w' ⟨rfl, rfl⟩)
  all_goals
    have hz9 : Blk (((((w5.setCell ⟨gz, 0, none⟩ (.int .i64 (partT b p k))).setCell ⟨gz, 1, none⟩ (.int .i64 (partB b p k))).setCell ⟨gz, 2, none⟩ (.int .i64 (partD b p k))).setCell ⟨gz, 3, none⟩ (.int .i64 R)).setCell ⟨gz, 4, none⟩ (.int .i64 V)) gz 95 #[.int .i64 (partT b p k), .int .i64 (partB b p k), .int .i64 (partD b p k), .int .i64 R, .int .i64 V] := by simpa using (((((HZ.out.set_ 0 (.int .i64 (partT b p k))).set_ 1 (.int .i64 (partB b p k))).set_ 2 (.int .i64 (partD b p k))).set_ 3 (.int .i64 R)).set_ 4 (.int .i64 V))
    have hb9 : Below w.heap.size w (((((w5.setCell ⟨gz, 0, none⟩ (.int .i64 (partT b p k))).setCell ⟨gz, 1, none⟩ (.int .i64 (partB b p k))).setCell ⟨gz, 2, none⟩ (.int .i64 (partD b p k))).setCell ⟨gz, 3, none⟩ (.int .i64 R)).setCell ⟨gz, 4, none⟩ (.int .i64 V)) := (((((HB.out.setCell (p := ⟨gz, 0, none⟩) (by have := HWZ.out; show w.heap.size ≤ gz; omega) (.int .i64 (partT b p k))).setCell (p := ⟨gz, 1, none⟩) (by have := HWZ.out; show w.heap.size ≤ gz; omega) (.int .i64 (partB b p k))).setCell (p := ⟨gz, 2, none⟩) (by have := HWZ.out; show w.heap.size ≤ gz; omega) (.int .i64 (partD b p k))).setCell (p := ⟨gz, 3, none⟩) (by have := HWZ.out; show w.heap.size ≤ gz; omega) (.int .i64 R)).setCell (p := ⟨gz, 4, none⟩) (by have := HWZ.out; show w.heap.size ≤ gz; omega) (.int .i64 V))
    generalize (((((w5.setCell ⟨gz, 0, none⟩ (.int .i64 (partT b p k))).setCell ⟨gz, 1, none⟩ (.int .i64 (partB b p k))).setCell ⟨gz, 2, none⟩ (.int .i64 (partD b p k))).setCell ⟨gz, 3, none⟩ (.int .i64 R)).setCell ⟨gz, 4, none⟩ (.int .i64 V)) = W9 at hz9 hb9 ⊢
    have q0 : W9.cell? ⟨gz, 0, none⟩ = some (.int .i64 (partT b p k)) := hz9.cell 0
    have q1 : W9.cell? ⟨gz, 1, none⟩ = some (.int .i64 (partB b p k)) := hz9.cell 1
    have q2 : W9.cell? ⟨gz, 2, none⟩ = some (.int .i64 (partD b p k)) := hz9.cell 2
    have q3 : W9.cell? ⟨gz, 3, none⟩ = some (.int .i64 R) := hz9.cell 3
    have q4 : W9.cell? ⟨gz, 4, none⟩ = some (.int .i64 V) := hz9.cell 4
    go_wp2_with fail
    refine bodyPost_ret (v := .tuple #[.agg #[.int .i64 (partT b p k), .int .i64 (partB b p k), .int .i64 (partD b p k), .int .i64 R, .int .i64 V], .int .i64 0]) (by simp [results, Try.results87, go_sem, q0, q1, q2, q3, q4]) rfl ⟨rfl, by first | exact hb9 | exact hb9.drew⟩
set_option maxRecDepth 20000 in
set_option maxHeartbeats 8000000 in
theorem impl_checkLeaving_no (b : Bas) (A : Option Addr) (n cap : Nat) (p : Policy) (k : Int) (w : World) (hB : BasT w A n cap b) (hp : p.fits) (hk : In64 k) (h : ¬ leavCode b p k = 0) :
    Calls Try.prog 87 #[.agg #[.int .i64 b.first, .slice A n cap, .int .i64 b.rate], .agg p.row.toArray, .int .i64 k] w fun e w' => e = .returned (.tuple #[.agg #[.int .i64 0, .int .i64 0, .int .i64 0, .int .i64 0, .int .i64 0], .int .i64 (leavCode b p k)]) ∧ Below w.heap.size w w' := by
  unfold Policy.row
  have HB := Lib.hid (Below.refl w.heap.size w)
  have HH := Lib.hid (Held.nil w)
  have HT := Lib.hid hB; clear hB
  obtain ⟨hb, hr0, hr1, hz⟩ := box3 (w := w) (tx := 28) (ty := 35) (tz := 95) (X := [.int .i64 b.first, .slice A n cap, .int .i64 b.rate]) (Y := [.int .i64 p.kind, .int .i64 p.age, .int .i64 p.years, .int .i64 p.sum, .int .i64 p.load]) (Z := [.int .i64 0, .int .i64 0, .int .i64 0, .int .i64 0, .int .i64 0])
  replace HB := Lib.hid (below_all HB.out hb)
  replace HT := Lib.hid (HT.out.past hb)
  replace HH := Lib.hid (((HH.out.past hb).cons hr0).cons hr1)
  have HZ := Lib.hid hz
  clear hb hr0 hr1 hz
  by_cases h0 : resCode b p k = 0
  · skip
    have Q := Lib.hid (show leavCode b p k = 4 by unfold leavCode at h ⊢; rw [if_pos h0] at h ⊢; by_cases h2 : k < 2; exact if_pos h2; rw [if_neg h2] at h; exact absurd rfl h)
    have hk2 : k < 2 := by unfold leavCode at h; rw [if_pos h0] at h; by_cases h2 : k < 2; exact h2; rw [if_neg h2] at h; exact absurd rfl h
    clear h
    go_enter Try.func87, Try.ntmps87
    have HL_bx := Lib.hid (Rd.box (HH.out.get 1 rfl))
    have HL_px := Lib.hid (Rd.box (HH.out.get 0 rfl))
    go_wp2_with (first | (refine wpList_load_agg rfl 28 _ rfl ⟨w.heap.size, 0, none⟩ rfl [.int .i64 b.first, .slice A n cap, .int .i64 b.rate] HL_bx.out _ Try.underlying28 rfl Bas.size ?_) | (refine wpList_load_agg rfl 35 _ rfl ⟨w.heap.size + 1, 0, none⟩ rfl [.int .i64 p.kind, .int .i64 p.age, .int .i64 p.years, .int .i64 p.sum, .int .i64 p.load] HL_px.out _ Try.underlying35 rfl Policy.size ?_))
    clear HL_bx HL_px
    have HWZ := Lib.hid (show w.heap.size ≤ w.heap.size + 2 by omega)
    generalize (((w.alloc (.cells #[.int .i64 b.first, .slice A n cap, .int .i64 b.rate] 28)).alloc (.cells #[.int .i64 p.kind, .int .i64 p.age, .int .i64 p.years, .int .i64 p.sum, .int .i64 p.load] 35)).alloc (.cells #[.int .i64 0, .int .i64 0, .int .i64 0, .int .i64 0, .int .i64 0] 95)) = v0 at HB HH HT HZ ⊢
    generalize w.heap.size + 2 = gz at HZ HWZ ⊢
    generalize w.heap.size + 1 = g0_1 at HH ⊢
    generalize hg00 : w.heap.size = g0_0 at HH ⊢
    clear hg00
    refine (impl_checkReserve_ok b A n cap p k _ HT.out hp hk h0).mono ?_
    rintro e w1 ⟨rfl, hb⟩
    replace HZ := Lib.hid (HZ.out.below' hb)
    replace HB := Lib.hid (below_all HB.out hb)
    replace HT := Lib.hid (HT.out.past hb)
    replace HH := Lib.hid (HH.out.past hb)
    clear hb
    obtain ⟨hb, hr0⟩ := box1 (w := w1) (tx := 90) (X := [.int .i64 (partT b p k), .int .i64 (partB b p k), .int .i64 (partD b p k)])
    replace HB := Lib.hid (below_all HB.out hb)
    replace HT := Lib.hid (HT.out.past hb)
    replace HH := Lib.hid ((HH.out.past hb).cons hr0)
    clear hb hr0
    have hba : Below w1.heap.size w1 (w1.alloc (.cells #[.int .i64 (partT b p k), .int .i64 (partB b p k), .int .i64 (partD b p k)] 90)) := (Below.refl _ w1).alloc (Nat.le_refl _) _
    replace HZ := Lib.hid (HZ.out.below' hba); clear hba
    go_upto_region 5 with fail
    generalize (w1.alloc (.cells #[.int .i64 (partT b p k), .int .i64 (partB b p k), .int .i64 (partD b p k)] 90)) = v1 at HB HH HT HZ ⊢
    generalize w1.heap.size = g1_0 at HH ⊢
    have H1d : Hid (∀ v ∈ ([.int .i64 0, .int .i64 0, .int .i64 0, .int .i64 0, .int .i64 0] : List Value), v.oneCell' = true) := Lib.hid (by simp [Value.oneCell'])
    go_wp2_with (refine wpList_store_agg rfl 95 _ _ rfl gz 0 [.int .i64 0, .int .i64 0, .int .i64 0, .int .i64 0, .int .i64 0] rfl rfl 95 #[.int .i64 0, .int .i64 0, .int .i64 0, .int .i64 0, .int .i64 0] HZ.out Leaving.size (by simp) H1d.out ?_)
    intro w6 hR6 hg6 _
    have hR6' : Blk w6 gz 95 #[.int .i64 0, .int .i64 0, .int .i64 0, .int .i64 0, .int .i64 0] := hR6
    have r0 : w6.cell? ⟨gz, 0, none⟩ = some (.int .i64 0) := hR6'.cell 0
    have r1 : w6.cell? ⟨gz, 1, none⟩ = some (.int .i64 0) := hR6'.cell 1
    have r2 : w6.cell? ⟨gz, 2, none⟩ = some (.int .i64 0) := hR6'.cell 2
    have r3 : w6.cell? ⟨gz, 3, none⟩ = some (.int .i64 0) := hR6'.cell 3
    have r4 : w6.cell? ⟨gz, 4, none⟩ = some (.int .i64 0) := hR6'.cell 4
    go_wp2
    refine bodyPost_ret (v := .tuple #[.agg #[.int .i64 0, .int .i64 0, .int .i64 0, .int .i64 0, .int .i64 0], .int .i64 4]) (by simp [results, Try.results87, go_sem, r0, r1, r2, r3, r4]) rfl ⟨by rw [Q.out], HB.out.grown hg6 HB.out.size (fun k hk => by injection hk with hk; have := HWZ.out; omega)⟩
  · skip
    have Q := Lib.hid (show leavCode b p k = resCode b p k by unfold leavCode; rw [if_neg h0])
    have hz : (resCode b p k != 0) = true := by simpa [bne] using h0
    go_enter Try.func87, Try.ntmps87
    have HL_bx := Lib.hid (Rd.box (HH.out.get 1 rfl))
    have HL_px := Lib.hid (Rd.box (HH.out.get 0 rfl))
    go_wp2_with (first | (refine wpList_load_agg rfl 28 _ rfl ⟨w.heap.size, 0, none⟩ rfl [.int .i64 b.first, .slice A n cap, .int .i64 b.rate] HL_bx.out _ Try.underlying28 rfl Bas.size ?_) | (refine wpList_load_agg rfl 35 _ rfl ⟨w.heap.size + 1, 0, none⟩ rfl [.int .i64 p.kind, .int .i64 p.age, .int .i64 p.years, .int .i64 p.sum, .int .i64 p.load] HL_px.out _ Try.underlying35 rfl Policy.size ?_))
    clear HL_bx HL_px
    have HWZ := Lib.hid (show w.heap.size ≤ w.heap.size + 2 by omega)
    generalize (((w.alloc (.cells #[.int .i64 b.first, .slice A n cap, .int .i64 b.rate] 28)).alloc (.cells #[.int .i64 p.kind, .int .i64 p.age, .int .i64 p.years, .int .i64 p.sum, .int .i64 p.load] 35)).alloc (.cells #[.int .i64 0, .int .i64 0, .int .i64 0, .int .i64 0, .int .i64 0] 95)) = v0 at HB HH HT HZ ⊢
    generalize w.heap.size + 2 = gz at HZ HWZ ⊢
    generalize w.heap.size + 1 = g0_1 at HH ⊢
    generalize hg00 : w.heap.size = g0_0 at HH ⊢
    clear hg00
    refine (impl_checkReserve_no b A n cap p k _ HT.out hp hk h0).mono ?_
    rintro e w1 ⟨rfl, hb⟩
    replace HZ := Lib.hid (HZ.out.below' hb)
    replace HB := Lib.hid (below_all HB.out hb)
    replace HT := Lib.hid (HT.out.past hb)
    replace HH := Lib.hid (HH.out.past hb)
    clear hb
    obtain ⟨hb, hr0⟩ := box1 (w := w1) (tx := 90) (X := [.int .i64 0, .int .i64 0, .int .i64 0])
    replace HB := Lib.hid (below_all HB.out hb)
    replace HT := Lib.hid (HT.out.past hb)
    replace HH := Lib.hid ((HH.out.past hb).cons hr0)
    clear hb hr0
    have hba : Below w1.heap.size w1 (w1.alloc (.cells #[.int .i64 0, .int .i64 0, .int .i64 0] 90)) := (Below.refl _ w1).alloc (Nat.le_refl _) _
    replace HZ := Lib.hid (HZ.out.below' hba); clear hba
    clear h0 h
    generalize hc : resCode b p k = c at hz Q ⊢
    clear hc
    go_upto_region 3 with fail
    generalize (w1.alloc (.cells #[.int .i64 0, .int .i64 0, .int .i64 0] 90)) = v1 at HB HH HT HZ ⊢
    generalize w1.heap.size = g1_0 at HH ⊢
    have H1d : Hid (∀ v ∈ ([.int .i64 0, .int .i64 0, .int .i64 0, .int .i64 0, .int .i64 0] : List Value), v.oneCell' = true) := Lib.hid (by simp [Value.oneCell'])
    go_wp2_with (refine wpList_store_agg rfl 95 _ _ rfl gz 0 [.int .i64 0, .int .i64 0, .int .i64 0, .int .i64 0, .int .i64 0] rfl rfl 95 #[.int .i64 0, .int .i64 0, .int .i64 0, .int .i64 0, .int .i64 0] HZ.out Leaving.size (by simp) H1d.out ?_)
    intro w6 hR6 hg6 _
    have hR6' : Blk w6 gz 95 #[.int .i64 0, .int .i64 0, .int .i64 0, .int .i64 0, .int .i64 0] := hR6
    have r0 : w6.cell? ⟨gz, 0, none⟩ = some (.int .i64 0) := hR6'.cell 0
    have r1 : w6.cell? ⟨gz, 1, none⟩ = some (.int .i64 0) := hR6'.cell 1
    have r2 : w6.cell? ⟨gz, 2, none⟩ = some (.int .i64 0) := hR6'.cell 2
    have r3 : w6.cell? ⟨gz, 3, none⟩ = some (.int .i64 0) := hR6'.cell 3
    have r4 : w6.cell? ⟨gz, 4, none⟩ = some (.int .i64 0) := hR6'.cell 4
    go_wp2
    refine bodyPost_ret (v := .tuple #[.agg #[.int .i64 0, .int .i64 0, .int .i64 0, .int .i64 0, .int .i64 0], .int .i64 c]) (by simp [results, Try.results87, go_sem, r0, r1, r2, r3, r4]) rfl ⟨by rw [Q.out], HB.out.grown hg6 HB.out.size (fun k hk => by injection hk with hk; have := HWZ.out; omega)⟩
end Go.Proofs.Ytbjdbpdgacfcpaa
end

/- Years kept and the best year of leaving: plain laws. No program. -/
section
namespace Go.Proofs.Ytbjdbpdgacfcpaa
open Go.RowKit Go.BigFrame
theorem pol_basis {b : Bas} {p : Policy} (h : polB b p = true) : basisB b = true := by
  simp only [polB, Bool.and_eq_true] at h; exact h.1
theorem kept_assur {b : Bas} {p : Policy} {k m : Int} (Y : YearOk b p k) (h1 : 1 ≤ m) (h2 : m ≤ durP b p - k) : assurB b 1 (p.age + k) m p.sum = true := by
  have hd := dur_small Y.toPolOk
  have a0 := Y.age0; have a1 := Y.end1; have k0 := Y.k0; have s0 := Y.sum0; have s1 := Y.sum1
  have T := Y.tab
  have t1 := T.top
  have he : p.age + durP b p ≤ 150 := by
    unfold durP Bas.last
    split <;> omega
  exact assur_mk ⟨Y.rate0, Y.rate1⟩ ⟨by omega, by omega, by omega, by omega, s0, s1, by omega, by omega, by omega, by omega⟩
theorem kept_price {b : Bas} {p : Policy} {k m : Int} (Y : YearOk b p k) : (0 ≤ b.top 1 (p.age + k) m ∧ b.top 1 (p.age + k) m ≤ partD b p k) ∧ (0 ≤ p.sum * b.top 1 (p.age + k) m / partD b p k ∧ p.sum * b.top 1 (p.age + k) m / partD b p k ≤ 100000000) ∧ (0 ≤ priceP b 1 (p.age + k) m p.sum ∧ priceP b 1 (p.age + k) m p.sum ≤ 100000000) := by
  have h1 := top_bound Y.toBasOk 1 (p.age + k) m
  have h2 := Y.d1
  have h3 := mul_div_le (a := p.sum) (m := 1) (by have := Y.sum0; omega) h1.1 h2 (by omega)
  have h4 := up_le (a := p.sum) (by have := Y.sum0; omega) h1.1 h2 h1.2
  have h5 := Y.sum1
  unfold partD priceP
  exact ⟨h1, ⟨h3.1, by omega⟩, h4.1, by omega⟩
theorem keptM_pos {b : Bas} {p : Policy} {k v : Int} {m : Nat} (h : priceP b 1 (p.age + k) ((m : Int) + 1) p.sum ≤ v) : keptM b p k v (m + 1) = m + 1 := by
  show (if _ then m + 1 else keptM b p k v m) = m + 1
  rw [if_pos h]
theorem keptM_neg {b : Bas} {p : Policy} {k v : Int} {m : Nat} (h : ¬ priceP b 1 (p.age + k) ((m : Int) + 1) p.sum ≤ v) : keptM b p k v (m + 1) = keptM b p k v m := by
  show (if _ then m + 1 else keptM b p k v m) = _
  rw [if_neg h]
theorem midB_at {b : Bas} {p : Policy} {k n : Nat} (h : midB b p n = true) (h2 : 2 ≤ k) (hk : k < n) : ¬ partD b p (k : Int) = 0 := by
  simp only [midB, List.all_eq_true, List.mem_range, decide_eq_true_eq] at h
  exact h k hk h2
theorem midB_succ {b : Bas} {p : Policy} {k : Nat} (h : midB b p k = true) (hd : ¬ partD b p (k : Int) = 0) : midB b p (k + 1) = true := by
  simp only [midB, List.all_eq_true, List.mem_range, decide_eq_true_eq] at h ⊢
  intro j hj h2
  by_cases e : j = k
  · subst e; exact hd
  · exact h j (by omega) h2
theorem midB_stop {b : Bas} {p : Policy} {k n : Nat} (h2 : 2 ≤ k) (hk : k < n) (hd : partD b p (k : Int) = 0) : midB b p n = false := by
  cases h : midB b p n
  · rfl
  · exact absurd hd (midB_at h h2 hk)
theorem midB_two (b : Bas) (p : Policy) : midB b p 2 = true := by
  simp only [midB, List.all_eq_true, List.mem_range, decide_eq_true_eq]
  intro j hj h2; omega
/-- the best year so far, behind the years below k -/
def bstP (b : Bas) (p : Policy) (k : Nat) : Int × Int := if k ≤ 2 then (-1, 0) else (((bestAt b p (k - 3)).1 : Int), (bestAt b p (k - 3)).2)
theorem bst_two (b : Bas) (p : Policy) : bstP b p 2 = (-1, 0) := rfl
theorem bst_three (b : Bas) (p : Policy) : bstP b p 3 = (2, bestN b p 2) := rfl
theorem bst_ge (b : Bas) (p : Policy) (j : Nat) : bstP b p (j + 3) = (((bestAt b p j).1 : Int), (bestAt b p j).2) := if_neg (by omega)
theorem bst_succ {b : Bas} {p : Policy} {k : Nat} (h : 3 ≤ k) : bstP b p (k + 1) = if (bstP b p k).2 < bestN b p k then ((k : Int), bestN b p k) else bstP b p k := by
  obtain ⟨j, rfl⟩ : ∃ j, k = j + 3 := ⟨k - 3, by omega⟩
  rw [show j + 3 + 1 = (j + 1) + 3 by omega, bst_ge, bst_ge]
  show ((((if (bestAt b p j).2 < bestN b p (j + 3) then (j + 3, bestN b p (j + 3)) else bestAt b p j).1 : Nat) : Int), (if (bestAt b p j).2 < bestN b p (j + 3) then (j + 3, bestN b p (j + 3)) else bestAt b p j).2) = _
  by_cases hc : (bestAt b p j).2 < bestN b p (j + 3)
  · rw [if_pos hc, if_pos hc]
  · rw [if_neg hc, if_neg hc]
theorem bst_pos {b : Bas} {p : Policy} {k : Nat} (h : 3 ≤ k) : 2 ≤ (bstP b p k).1 := by
  obtain ⟨j, rfl⟩ : ∃ j, k = j + 3 := ⟨k - 3, by omega⟩
  clear h
  induction j with
  | zero => exact Int.le_refl 2
  | succ j ih =>
    rw [show j + 1 + 3 = (j + 3) + 1 by omega, bst_succ (by omega)]
    split
    · show (2 : Int) ≤ ((j + 3 : Nat) : Int); omega
    · exact ih
end Go.Proofs.Ytbjdbpdgacfcpaa
end

/- Numbers small enough for the reference's duration of whatever policy. No program. -/
section
namespace Go.Proofs.Ytbjdbpdgacfcpaa

structure DurW (b : Bas) (n : Nat) (p : Policy) : Prop where
  f0 : -1000 ≤ b.first
  f1 : b.first ≤ 1000
  n1 : n ≤ 1000
  a0 : -4000000000 ≤ p.age
  a1 : p.age ≤ 4000000000
  y0 : -4000000000 ≤ p.years
  y1 : p.years ≤ 4000000000
end Go.Proofs.Ytbjdbpdgacfcpaa
end

/- Leaving, kept years and reserve lists: plain laws. No program. -/
section
namespace Go.Proofs.Ytbjdbpdgacfcpaa

theorem year_assur {b : Bas} {p : Policy} {k s : Int} (Y : YearOk b p k) (hs : 1 ≤ s ∧ s ≤ 100000000) : assurB b p.kind (p.age + k) (leftP p k) s = true := by
  have hd := dur_bound Y.toPolOk
  have k0 := Y.k0; have k1 := Y.k1
  have a0 := Y.age0; have a1 := Y.age1; have n0 := Y.yrs0; have n1 := Y.yrs1; have e1 := Y.end1; have z := Y.zero; have f0 := Y.tab.first0
  have hlast : b.last = b.first + (b.lives.length : Int) - 1 := rfl
  have htop := Y.tab.top
  refine assur_mk ⟨Y.rate0, Y.rate1⟩ ?_
  have hdur : durP b p = if p.kind = 0 then b.last - p.age else p.years := rfl
  have hl : leftP p k = if p.kind = 0 then 0 else p.years - k := rfl
  rw [hl]
  by_cases hk : p.kind = 0
  · rw [if_pos hk] at hdur ⊢
    exact ⟨Y.kind0, Y.kind1, by omega, by omega, by omega, by omega, by omega, by omega, by omega, by omega⟩
  · rw [if_neg hk] at hdur ⊢
    exact ⟨Y.kind0, Y.kind1, by omega, by omega, by omega, by omega, by omega, by omega, by omega, by omega⟩
/-- a sum that a value pays for costs at most the value -/
theorem up_paid {s t v d : Int} (hd : 1 ≤ d) (ht : 1 ≤ t) (h : s ≤ v * d / t) : upP s t d ≤ v := by
  have h1 : s * t ≤ v * d / t * t := Int.mul_le_mul_of_nonneg_right h (by omega)
  have h2 : v * d / t * t ≤ v * d := Int.ediv_mul_le _ (by omega)
  have h3 : s * t ≤ v * d := by omega
  have h4 : s * t / d ≤ v := by
    have := Int.ediv_le_ediv (show 0 < d by omega) h3
    rwa [Int.mul_ediv_cancel _ (by omega)] at this
  unfold upP
  split
  · rename_i hr
    have h5 := Int.mul_ediv_add_emod (s * t) d
    by_cases h6 : s * t / d = v
    · rw [h6, Int.mul_comm d v] at h5; omega
    · omega
  · omega
theorem leav_codes (b : Bas) (p : Policy) (k : Int) : (surP b p k).2 = (paidUpP b p k).2 ∧ (lossP b p k).2 = (paidUpP b p k).2 ∧ (loanP b p k).2 = (paidUpP b p k).2 := by
  unfold surP lossP loanP paidUpP
  by_cases h : leavCode b p k = 0
  · simp [h]
  · simp [h]
theorem leaving_good {b : Bas} {p : Policy} {k : Int} (H : (paidUpP b p k).2 = 0) :
    ∃ v l o s : Int, surP b p k = (v, 0) ∧ lossP b p k = (l, 0) ∧ loanP b p k = (o, 0) ∧ paidUpP b p k = (s, 0) ∧
      (0 ≤ v ∧ v ≤ 100000001) ∧ (0 ≤ l ∧ l ≤ 100000001) ∧ 1000 * v ≤ 900 * (v + l) ∧ o ≤ v ∧ (0 ≤ s ∧ s ≤ p.sum) ∧ p.sum ≤ 100000000 ∧
      (0 ≤ k ∧ k ≤ 150) ∧ (0 ≤ p.age ∧ p.age ≤ 150) ∧ (0 ≤ p.years ∧ p.years ≤ 120) ∧
      (1 ≤ s → basisB b = true ∧ assurB b p.kind (p.age + k) (leftP p k) s = true ∧ b.d (p.age + k) ≠ 0 ∧ priceP b p.kind (p.age + k) (leftP p k) s ≤ v) := by
  have hc : leavCode b p k = 0 := by
    unfold paidUpP at H
    by_cases h : leavCode b p k = 0
    · exact h
    · rw [if_neg h] at H; exact H
  obtain ⟨hr, _⟩ := leav_ok hc
  have Y := year_ok hr
  obtain ⟨⟨r0, r1⟩, v0, v1⟩ := val_bound Y
  have hd := dur_bound Y.toPolOk
  have k0 := Y.k0; have k1 := Y.k1; have f0 := Y.tab.first0; have a0 := Y.age0
  have d1 := Y.d1
  have ht := top_bound Y.toBasOk p.kind (p.age + k) (leftP p k)
  have hvd : valV b p k = resAt b p k * 900 / 1000 := rfl
  have hs0 : 0 ≤ puQ p.sum (valV b p k) (partD b p k) (partT b p k) ∧ puQ p.sum (valV b p k) (partD b p k) (partT b p k) ≤ p.sum := by
    have q0 : 0 ≤ valV b p k * partD b p k / partT b p k := Int.ediv_nonneg (Int.mul_nonneg v0 (by unfold partD; omega)) ht.1
    have := Y.sum0
    unfold puQ
    split <;> omega
  refine ⟨valV b p k, resAt b p k - valV b p k, valV b p k * 800 / 1000, puQ p.sum (valV b p k) (partD b p k) (partT b p k), if_pos hc, if_pos hc, if_pos hc, if_pos hc, ⟨v0, by omega⟩, ⟨by omega, by omega⟩, by omega, by omega, hs0, Y.sum1, ⟨k0, by omega⟩, ⟨by omega, Y.age1⟩, ⟨Y.yrs0, Y.yrs1⟩, fun h1 => ?_⟩
  refine ⟨pol_basis (res_pol hr), year_assur Y ⟨h1, by have := Y.sum1; omega⟩, by omega, ?_⟩
  by_cases h0 : partT b p k = 0
  · unfold puQ at h1; rw [if_pos h0] at h1; omega
  · unfold priceP
    refine up_paid d1 (show 1 ≤ partT b p k by unfold partT at h0 ⊢; omega) ?_
    show puQ p.sum (valV b p k) (partD b p k) (partT b p k) ≤ valV b p k * partD b p k / partT b p k
    unfold puQ
    rw [if_neg h0]
    omega
theorem kept_good {b : Bas} {p : Policy} {k : Int} (H : (keptYP b p k).2 = 0) (hm : (keptYP b p k).1 ≠ 0) :
    ∃ v m : Int, keptYP b p k = (m, 0) ∧ surP b p k = (v, 0) ∧ (0 ≤ m ∧ m ≤ 150) ∧ (0 ≤ k ∧ k ≤ 150) ∧ (0 ≤ p.age ∧ p.age ≤ 150) ∧
      basisB b = true ∧ assurB b 1 (p.age + k) m p.sum = true ∧ b.d (p.age + k) ≠ 0 ∧ priceP b 1 (p.age + k) m p.sum ≤ v := by
  have hc : leavCode b p k = 0 := by
    unfold keptYP at H
    by_cases h : leavCode b p k = 0
    · exact h
    · rw [if_neg h] at H; exact H
  obtain ⟨hr, _⟩ := leav_ok hc
  have Y := year_ok hr
  have hd := dur_bound Y.toPolOk
  have k0 := Y.k0; have k1 := Y.k1; have f0 := Y.tab.first0; have a0 := Y.age0; have d1 := Y.d1
  have e : keptYP b p k = ((keptM b p k (valV b p k) (durP b p - k).toNat : Int), 0) := if_pos hc
  rw [e] at hm
  have hle := keptM_le b p k (valV b p k) (durP b p - k).toNat
  have hm1 : keptM b p k (valV b p k) (durP b p - k).toNat ≠ 0 := by intro h; rw [h] at hm; exact hm rfl
  have hp := keptM_price _ hm1
  exact ⟨valV b p k, _, e, if_pos hc, ⟨by omega, by omega⟩, ⟨k0, by omega⟩, ⟨by omega, Y.age1⟩, pol_basis (res_pol hr), kept_assur Y (by omega) (by omega), by omega, hp⟩
theorem bestAt_spec (b : Bas) (p : Policy) : ∀ m, 2 ≤ (bestAt b p m).1 ∧ (bestAt b p m).1 ≤ m + 2 ∧ (bestAt b p m).2 = bestN b p (bestAt b p m).1
  | 0 => ⟨Nat.le_refl _, Nat.le_refl _, rfl⟩
  | m + 1 => by
    have h := bestAt_spec b p m
    unfold bestAt
    split
    · exact ⟨by show 2 ≤ m + 3; omega, Nat.le_refl _, rfl⟩
    · exact ⟨h.1, by omega, h.2.2⟩
theorem best_good {b : Bas} {p : Policy} (H : (bestP b p).2.2 = 0) :
    ∃ x n v : Int, bestP b p = (x, n, 0) ∧ surP b p x = (v, 0) ∧ polB b p = true ∧ n = v - x * officeP b p ∧ (0 ≤ x ∧ x ≤ 150) ∧ (0 ≤ v ∧ v ≤ 100000001) ∧ (0 ≤ officeP b p ∧ officeP b p ≤ 200000000) ∧ (0 ≤ x * officeP b p ∧ x * officeP b p ≤ 30000000000) := by
  unfold bestP at H
  by_cases h1 : polB b p = true
  rotate_left
  · rw [if_neg h1] at H; simp at H
  rw [if_pos h1] at H
  by_cases h2 : durP b p ≤ 2
  · rw [if_pos h2] at H; simp at H
  rw [if_neg h2] at H
  by_cases h3 : midB b p (rlN b p) = true
  rotate_left
  · rw [if_neg h3] at H; simp at H
  have e : bestP b p = (((bestAt b p (rlN b p - 3)).1 : Int), (bestAt b p (rlN b p - 3)).2, 0) := by
    unfold bestP; rw [if_pos h1, if_neg h2, if_pos h3]
  have P := pol_ok h1
  obtain ⟨hn, _, n2⟩ := rlN_cast P
  obtain ⟨s1, s2, s3⟩ := bestAt_spec b p (rlN b p - 3)
  have hk : (bestAt b p (rlN b p - 3)).1 < rlN b p := by omega
  have hd := midB_at h3 s1 hk
  have Y := year_at P hk hd
  have hr : resCode b p ((bestAt b p (rlN b p - 3)).1 : Int) = 0 := by
    rw [code_at h1 (by omega) (by omega), if_neg hd]
  have hc : leavCode b p ((bestAt b p (rlN b p - 3)).1 : Int) = 0 := by
    unfold leavCode; rw [if_pos hr, if_neg (by omega)]
  obtain ⟨⟨r0, r1⟩, v0, v1⟩ := val_bound Y
  have ho := office_bound P
  have hnb := net_bound P
  have hx1 : ((bestAt b p (rlN b p - 3)).1 : Int) ≤ 150 := by omega
  have hm := Int.mul_le_mul hx1 ho.2.2.2 (by omega) (show (0 : Int) ≤ 150 by omega)
  refine ⟨_, _, valV b p _, e, if_pos hc, h1, s3, ⟨by omega, hx1⟩, ⟨v0, by omega⟩, ⟨by omega, ho.2.2.2⟩, Int.mul_nonneg (by omega) (by omega), by omega⟩
theorem great_code (b : Bas) (p : Policy) : (greatP b p).2.2 = (rlP b p).2 := by
  unfold greatP
  by_cases h : (rlP b p).2 = 0
  · rw [if_pos h, h]
  · rw [if_neg h]
theorem list_small (b : Bas) (p : Policy) : (rlP b p).1.length ≤ 120 := by
  unfold rlP
  split
  · rename_i h
    split
    · show (rlTo b p (rlN b p)).length ≤ 120
      rw [rlTo_length]; exact (rlN_cast (pol_ok h)).2.2
    · simp
  · simp
theorem lists_good {b : Bas} {p : Policy} (H : (rlP b p).2 = 0) :
    ∃ n k : Nat, 1 ≤ n ∧ n ≤ 120 ∧ (rlP b p).1 = rlTo b p n ∧ k < n ∧ greatP b p = (rlAt b p k, (k : Int), 0) ∧ ∀ i : Nat, i < n →
      fwdRP b p (i : Int) = ((fwdAt b p (i : Int)).1, (fwdAt b p (i : Int)).2, 0) ∧ (-12000000001 ≤ (fwdAt b p (i : Int)).1 ∧ (fwdAt b p (i : Int)).1 ≤ 100000000) ∧ (0 ≤ (fwdAt b p (i : Int)).2 ∧ (fwdAt b p (i : Int)).2 ≤ 1000000000000000) ∧
      rlAt b p i = max 0 ((fwdAt b p (i : Int)).1 + min 1 (fwdAt b p (i : Int)).2) ∧ rlAt b p i ≤ rlAt b p k := by
  obtain ⟨h1, h2⟩ := rl_good H
  have P := pol_ok h1
  obtain ⟨hn, n1, n2⟩ := rlN_cast P
  have hw : wholeTo b p (rlN b p) = true := by
    unfold rlP at H
    rw [if_pos h1] at H
    by_cases h : wholeTo b p (rlN b p) = true
    · exact h
    · rw [if_neg h] at H; simp at H
  have hk := top_lt (ys := rlTo b p (rlN b p)) (n := rlN b p) (by omega) (rlN b p) (Nat.le_refl _)
  have hg : ∀ i, i < rlN b p → gdm (rlTo b p (rlN b p)) i = rlAt b p i := fun i hi => gdm_get (rlTo_get b p hi)
  refine ⟨rlN b p, topIx (rlTo b p (rlN b p)) (rlN b p), n1, n2, by rw [h2], hk, ?_, fun i hi => ?_⟩
  · unfold greatP; rw [if_pos H, hg _ hk]
  · have hd := wholeTo_at hw hi
    have Y := year_at P hi hd
    have hr : resCode b p (i : Int) = 0 := by rw [code_at h1 (by omega) (by omega), if_neg hd]
    have PO := part_ok Y (net_bound P)
    have hb := fwd_bound PO
    have hdb := d_bound P.toBasOk (p.age + (i : Int))
    have hmax := top_max (ys := rlTo b p (rlN b p)) (rlN b p) i hi
    rw [hg _ hi, hg _ hk] at hmax
    refine ⟨by unfold fwdRP; rw [if_pos hr], hb.1, ⟨hb.2.1, ?_⟩, ?_, hmax⟩
    · have h3 := hb.2.2
      have h4 : partD b p (i : Int) = b.d (p.age + (i : Int)) := rfl
      unfold fwdAt
      omega
    · have h3 := hb.2.1
      unfold rlAt
      rw [if_neg hd]
      show max 0 ((fwdAt b p (i : Int)).1 + (if 0 < (fwdAt b p (i : Int)).2 then 1 else 0)) = _
      have h5 : 0 ≤ (fwdAt b p (i : Int)).2 := h3
      split <;> omega
theorem PD_durW {b : Bas} {n : Nat} {p : Policy} (hb : BasSmall b n) (hp : PolSmall p) : DurW b n p := by
  unfold PolSmall at hp
  have h1 := hb.first; have h2 := hb.len
  exact ⟨by omega, by omega, by omega, by omega, by omega, by omega, by omega⟩
end Go.Proofs.Ytbjdbpdgacfcpaa
end

/- Lists of reserves, checked: contracts (printed by rl2.py). -/
section
namespace Go.Proofs.Ytbjdbpdgacfcpaa
open Go.RowKit Go.BigFrame

set_option maxRecDepth 20000 in
set_option maxHeartbeats 8000000 in
theorem impl_ReserveList_any (b : Bas) (A : Option Addr) (n cap : Nat) (p : Policy) (w : World) (hB : BasT w A n cap b) (hp : p.fits) :
    Calls Try.prog 20 #[.agg #[.int .i64 b.first, .slice A n cap, .int .i64 b.rate], .agg p.row.toArray] w fun e w' => ∃ A' n' c', e = .returned (.tuple #[.slice A' n' c', .int .i64 (rlP b p).2]) ∧ Res w.heap.size w' 2 1 A' n' c' (intRows (rlP b p).1) ∧ Below w.heap.size w w' := by
  unfold Policy.row
  have HB := Lib.hid (Below.refl w.heap.size w)
  have HH := Lib.hid (Held.nil w)
  have HT := Lib.hid hB; clear hB
  obtain ⟨hb, hr0, hr1⟩ := box2 (w := w) (tx := 28) (ty := 35) (X := [.int .i64 b.first, .slice A n cap, .int .i64 b.rate]) (Y := [.int .i64 p.kind, .int .i64 p.age, .int .i64 p.years, .int .i64 p.sum, .int .i64 p.load])
  replace HB := Lib.hid (below_all HB.out hb)
  replace HT := Lib.hid (HT.out.past hb)
  replace HH := Lib.hid (((HH.out.past hb).cons hr0).cons hr1)
  clear hb hr0 hr1
  cases h1 : polB b p
  · skip
    have Q := Lib.hid (show rlP b p = ([], 1) by unfold rlP; rw [if_neg (by simp [h1])])
    go_enter Try.func20, Try.ntmps20
    have HL_bx := Lib.hid (Rd.box (HH.out.get 1 rfl))
    have HL_px := Lib.hid (Rd.box (HH.out.get 0 rfl))
    go_wp2_with (first | (refine wpList_load_agg rfl 28 _ rfl ⟨w.heap.size, 0, none⟩ rfl [.int .i64 b.first, .slice A n cap, .int .i64 b.rate] HL_bx.out _ Try.underlying28 rfl Bas.size ?_) | (refine wpList_load_agg rfl 35 _ rfl ⟨w.heap.size + 1, 0, none⟩ rfl [.int .i64 p.kind, .int .i64 p.age, .int .i64 p.years, .int .i64 p.sum, .int .i64 p.load] HL_px.out _ Try.underlying35 rfl Policy.size ?_))
    clear HL_bx HL_px
    generalize ((w.alloc (.cells #[.int .i64 b.first, .slice A n cap, .int .i64 b.rate] 28)).alloc (.cells #[.int .i64 p.kind, .int .i64 p.age, .int .i64 p.years, .int .i64 p.sum, .int .i64 p.load] 35)) = v0 at HB HH HT ⊢
    generalize w.heap.size + 1 = g0_1 at HH ⊢
    generalize w.heap.size = g0_0 at HH ⊢
    refine (impl_IsPolicy_any b A n cap p _ HT.out hp).mono ?_
    rw [h1]
    rintro e w1 ⟨rfl, hb⟩
    replace HB := Lib.hid (below_all HB.out hb)
    replace HT := Lib.hid (HT.out.past hb)
    replace HH := Lib.hid (HH.out.past hb)
    clear hb
    go_wp2
    go_ret2
    exact ⟨_, _, _, by rw [Q.out]; rfl, by rw [Q.out]; exact Res.nil_, HB.out⟩
  · skip
    have H1 := Lib.hid h1
    cases h2 : wholeTo b p (rlN b p)
    · skip
      have Q := Lib.hid (show rlP b p = ([], 5) by unfold rlP; rw [if_pos H1.out, if_neg (by simp [h2])])
      go_enter Try.func20, Try.ntmps20
      have HL_bx := Lib.hid (Rd.box (HH.out.get 1 rfl))
      have HL_px := Lib.hid (Rd.box (HH.out.get 0 rfl))
      go_wp2_with (first | (refine wpList_load_agg rfl 28 _ rfl ⟨w.heap.size, 0, none⟩ rfl [.int .i64 b.first, .slice A n cap, .int .i64 b.rate] HL_bx.out _ Try.underlying28 rfl Bas.size ?_) | (refine wpList_load_agg rfl 35 _ rfl ⟨w.heap.size + 1, 0, none⟩ rfl [.int .i64 p.kind, .int .i64 p.age, .int .i64 p.years, .int .i64 p.sum, .int .i64 p.load] HL_px.out _ Try.underlying35 rfl Policy.size ?_))
      clear HL_bx HL_px
      generalize ((w.alloc (.cells #[.int .i64 b.first, .slice A n cap, .int .i64 b.rate] 28)).alloc (.cells #[.int .i64 p.kind, .int .i64 p.age, .int .i64 p.years, .int .i64 p.sum, .int .i64 p.load] 35)) = v0 at HB HH HT ⊢
      generalize w.heap.size + 1 = g0_1 at HH ⊢
      generalize w.heap.size = g0_0 at HH ⊢
      refine (impl_IsPolicy_any b A n cap p _ HT.out hp).mono ?_
      rw [h1]
      rintro e w1 ⟨rfl, hb⟩
      replace HB := Lib.hid (below_all HB.out hb)
      replace HT := Lib.hid (HT.out.past hb)
      replace HH := Lib.hid (HH.out.past hb)
      clear hb
      have HL_bx := Lib.hid (Rd.box (HH.out.get 1 rfl))
      have HL_px := Lib.hid (Rd.box (HH.out.get 0 rfl))
      go_wp2_with (first | (refine wpList_load_agg rfl 28 _ rfl ⟨g0_0, 0, none⟩ rfl [.int .i64 b.first, .slice A n cap, .int .i64 b.rate] HL_bx.out _ Try.underlying28 rfl Bas.size ?_) | (refine wpList_load_agg rfl 35 _ rfl ⟨g0_1, 0, none⟩ rfl [.int .i64 p.kind, .int .i64 p.age, .int .i64 p.years, .int .i64 p.sum, .int .i64 p.load] HL_px.out _ Try.underlying35 rfl Policy.size ?_))
      clear HL_bx HL_px
      refine (impl_reserveList_any b A n cap p _ HT.out H1.out).mono ?_
      rw [h2]
      rintro e w2 ⟨A2, c2, rfl, hR, hb⟩
      have HR := Lib.hid (hR.more HB.out.size)
      replace HB := Lib.hid (below_all HB.out hb)
      replace HT := Lib.hid (HT.out.past hb)
      replace HH := Lib.hid (HH.out.past hb)
      clear hb
      clear hR
      go_wp2
      go_ret2
      exact ⟨_, _, _, by rw [Q.out]; rfl, by rw [Q.out]; exact Res.nil_, HB.out⟩
    · skip
      have Q := Lib.hid (show rlP b p = (rlTo b p (rlN b p), 0) by unfold rlP; rw [if_pos H1.out, if_pos h2])
      go_enter Try.func20, Try.ntmps20
      have HL_bx := Lib.hid (Rd.box (HH.out.get 1 rfl))
      have HL_px := Lib.hid (Rd.box (HH.out.get 0 rfl))
      go_wp2_with (first | (refine wpList_load_agg rfl 28 _ rfl ⟨w.heap.size, 0, none⟩ rfl [.int .i64 b.first, .slice A n cap, .int .i64 b.rate] HL_bx.out _ Try.underlying28 rfl Bas.size ?_) | (refine wpList_load_agg rfl 35 _ rfl ⟨w.heap.size + 1, 0, none⟩ rfl [.int .i64 p.kind, .int .i64 p.age, .int .i64 p.years, .int .i64 p.sum, .int .i64 p.load] HL_px.out _ Try.underlying35 rfl Policy.size ?_))
      clear HL_bx HL_px
      generalize ((w.alloc (.cells #[.int .i64 b.first, .slice A n cap, .int .i64 b.rate] 28)).alloc (.cells #[.int .i64 p.kind, .int .i64 p.age, .int .i64 p.years, .int .i64 p.sum, .int .i64 p.load] 35)) = v0 at HB HH HT ⊢
      generalize w.heap.size + 1 = g0_1 at HH ⊢
      generalize w.heap.size = g0_0 at HH ⊢
      refine (impl_IsPolicy_any b A n cap p _ HT.out hp).mono ?_
      rw [h1]
      rintro e w1 ⟨rfl, hb⟩
      replace HB := Lib.hid (below_all HB.out hb)
      replace HT := Lib.hid (HT.out.past hb)
      replace HH := Lib.hid (HH.out.past hb)
      clear hb
      have HL_bx := Lib.hid (Rd.box (HH.out.get 1 rfl))
      have HL_px := Lib.hid (Rd.box (HH.out.get 0 rfl))
      go_wp2_with (first | (refine wpList_load_agg rfl 28 _ rfl ⟨g0_0, 0, none⟩ rfl [.int .i64 b.first, .slice A n cap, .int .i64 b.rate] HL_bx.out _ Try.underlying28 rfl Bas.size ?_) | (refine wpList_load_agg rfl 35 _ rfl ⟨g0_1, 0, none⟩ rfl [.int .i64 p.kind, .int .i64 p.age, .int .i64 p.years, .int .i64 p.sum, .int .i64 p.load] HL_px.out _ Try.underlying35 rfl Policy.size ?_))
      clear HL_bx HL_px
      refine (impl_reserveList_any b A n cap p _ HT.out H1.out).mono ?_
      rw [h2]
      rintro e w2 ⟨A2, c2, rfl, hR, hb⟩
      have HR := Lib.hid (hR.more HB.out.size)
      replace HB := Lib.hid (below_all HB.out hb)
      replace HT := Lib.hid (HT.out.past hb)
      replace HH := Lib.hid (HH.out.past hb)
      clear hb
      clear hR
      go_wp2
      go_ret2
      exact ⟨_, _, _, by rw [Q.out]; rfl, by rw [Q.out]; exact HR.out, HB.out⟩
set_option maxRecDepth 20000 in
set_option maxHeartbeats 8000000 in
theorem spec_ReserveList_any (b : Bas) (A : Option Addr) (n cap : Nat) (p : Policy) (w : World) (hB : BasT w A n cap b) (hp : p.fits) :
    Calls Try.prog 21 #[.agg #[.int .i64 b.first, .slice A n cap, .int .i64 b.rate], .agg p.row.toArray] w fun e w' => ∃ A' n' c', e = .returned (.tuple #[.slice A' n' c', .int .i64 (rlP b p).2]) ∧ Res w.heap.size w' 2 1 A' n' c' (intRows (rlP b p).1) ∧ Below w.heap.size w w' := by
  unfold Policy.row
  obtain ⟨i0, hi0, hz0, hz1, hz2⟩ := info_parts Int64.info
  have HI := Lib.hid (And.intro hi0 (And.intro hz0 (And.intro hz1 hz2))); clear hi0 hz0 hz1 hz2
  have HB := Lib.hid (Below.refl w.heap.size w)
  have HH := Lib.hid (Held.nil w)
  have HT := Lib.hid hB; clear hB
  obtain ⟨hb, hr0, hr1⟩ := box2 (w := w) (tx := 28) (ty := 35) (X := [.int .i64 b.first, .slice A n cap, .int .i64 b.rate]) (Y := [.int .i64 p.kind, .int .i64 p.age, .int .i64 p.years, .int .i64 p.sum, .int .i64 p.load])
  replace HB := Lib.hid (below_all HB.out hb)
  replace HT := Lib.hid (HT.out.past hb)
  replace HH := Lib.hid (((HH.out.past hb).cons hr0).cons hr1)
  clear hb hr0 hr1
  cases h1 : polB b p
  · skip
    have Q := Lib.hid (show rlP b p = ([], 1) by unfold rlP; rw [if_neg (by simp [h1])])
    go_enter Try.func21, Try.ntmps21
    have HL_bx := Lib.hid (Rd.box (HH.out.get 1 rfl))
    have HL_px := Lib.hid (Rd.box (HH.out.get 0 rfl))
    go_wp2_with (first | (refine wpList_load_agg rfl 28 _ rfl ⟨w.heap.size, 0, none⟩ rfl [.int .i64 b.first, .slice A n cap, .int .i64 b.rate] HL_bx.out _ Try.underlying28 rfl Bas.size ?_) | (refine wpList_load_agg rfl 35 _ rfl ⟨w.heap.size + 1, 0, none⟩ rfl [.int .i64 p.kind, .int .i64 p.age, .int .i64 p.years, .int .i64 p.sum, .int .i64 p.load] HL_px.out _ Try.underlying35 rfl Policy.size ?_))
    clear HL_bx HL_px
    generalize ((w.alloc (.cells #[.int .i64 b.first, .slice A n cap, .int .i64 b.rate] 28)).alloc (.cells #[.int .i64 p.kind, .int .i64 p.age, .int .i64 p.years, .int .i64 p.sum, .int .i64 p.load] 35)) = v0 at HB HH HT ⊢
    generalize w.heap.size + 1 = g0_1 at HH ⊢
    generalize w.heap.size = g0_0 at HH ⊢
    refine (spec_IsPolicy_any b A n cap p _ HT.out hp).mono ?_
    rw [h1]
    rintro e w1 ⟨rfl, hb⟩
    replace HB := Lib.hid (below_all HB.out hb)
    replace HT := Lib.hid (HT.out.past hb)
    replace HH := Lib.hid (HH.out.past hb)
    clear hb
    go_wp2
    go_ret2
    exact ⟨_, _, _, by rw [Q.out]; rfl, by rw [Q.out]; exact Res.nil_, HB.out⟩
  · skip
    have H1 := Lib.hid h1
    have HPO := Lib.hid (pol_ok h1)
    obtain ⟨hn0, hn1, hn2⟩ := rlN_cast HPO.out
    have HNC := Lib.hid hn0; clear hn0
    have hdb := dur_small HPO.out
    have ha0 := HPO.out.age0; have ha1 := HPO.out.age1; have hf0 := HPO.out.tab.first0; have hf1 := HPO.out.tab.first1
    go_enter Try.func21, Try.ntmps21
    have HL_bx := Lib.hid (Rd.box (HH.out.get 1 rfl))
    have HL_px := Lib.hid (Rd.box (HH.out.get 0 rfl))
    go_wp2_with (first | (refine wpList_load_agg rfl 28 _ rfl ⟨w.heap.size, 0, none⟩ rfl [.int .i64 b.first, .slice A n cap, .int .i64 b.rate] HL_bx.out _ Try.underlying28 rfl Bas.size ?_) | (refine wpList_load_agg rfl 35 _ rfl ⟨w.heap.size + 1, 0, none⟩ rfl [.int .i64 p.kind, .int .i64 p.age, .int .i64 p.years, .int .i64 p.sum, .int .i64 p.load] HL_px.out _ Try.underlying35 rfl Policy.size ?_))
    clear HL_bx HL_px
    generalize ((w.alloc (.cells #[.int .i64 b.first, .slice A n cap, .int .i64 b.rate] 28)).alloc (.cells #[.int .i64 p.kind, .int .i64 p.age, .int .i64 p.years, .int .i64 p.sum, .int .i64 p.load] 35)) = v0 at HB HH HT ⊢
    generalize w.heap.size + 1 = g0_1 at HH ⊢
    generalize w.heap.size = g0_0 at HH ⊢
    refine (spec_IsPolicy_any b A n cap p _ HT.out hp).mono ?_
    rw [h1]
    rintro e w1 ⟨rfl, hb⟩
    replace HB := Lib.hid (below_all HB.out hb)
    replace HT := Lib.hid (HT.out.past hb)
    replace HH := Lib.hid (HH.out.past hb)
    clear hb
    have HH1 := HH
    have HT1 := HT
    have HB1 := HB
    have hbz : Below w1.heap.size w1 (w1.alloc (.cells #[] 2)) := (Below.refl _ w1).alloc (Nat.le_refl _) _
    have HR := Lib.hid (Res.zero_at (w := w1) (B := w1.heap.size) (t := 2) (sz := 1) (g := w1.heap.size) (Nat.le_refl _) rfl)
    have HW := Lib.hid hbz; clear hbz
    go_wp2
    go_loopw [6, 7] (fun o i wr => ∃ (k : Nat) (ki : Int) (A' : Option Addr) (c' : Nat), k ≤ rlN b p ∧ ki = (k : Int) ∧ i = .int .i64 ki ∧ o = .slice A' k c' ∧ wholeTo b p k = true ∧ Res w1.heap.size wr 2 1 A' k c' (intRows (rlTo b p k)) ∧ Below w1.heap.size w1 wr) (fun _ i _ => rlN b p - (intOf i).toNat)
    case atStart => exact ⟨0, 0, _, _, by omega, rfl, rfl, rfl, rfl, HR.out, HW.out⟩
    case round =>
      clear HR HW HB HH HT
      obtain ⟨k, ki, A', c', hk, hki, rfl, rfl, hwh, hR, hb⟩ := hrel
      have HKI := Lib.hid hki; clear hki
      have HWH := Lib.hid hwh; clear hwh
      have HR := Lib.hid hR; clear hR
      have HW := Lib.hid hb
      have HH := Lib.hid (HH1.out.past hb)
      have HT := Lib.hid (HT1.out.past hb)
      have HB := Lib.hid (HB1.out.trans (hb.mono HB1.out.size))
      clear hb
      have HL_bx := Lib.hid (Rd.box (HH.out.get 1 rfl))
      have HL_px := Lib.hid (Rd.box (HH.out.get 0 rfl))
      go_wp2_with (first | (refine wpList_load_agg rfl 28 _ rfl ⟨g0_0, 0, none⟩ rfl [.int .i64 b.first, .slice A n cap, .int .i64 b.rate] HL_bx.out _ Try.underlying28 rfl Bas.size ?_) | (refine wpList_load_agg rfl 35 _ rfl ⟨g0_1, 0, none⟩ rfl [.int .i64 p.kind, .int .i64 p.age, .int .i64 p.years, .int .i64 p.sum, .int .i64 p.load] HL_px.out _ Try.underlying35 rfl Policy.size ?_))
      clear HL_bx HL_px
      refine (spec_l10Duration_any b A n cap p _ HT.out HPO.out).mono ?_
      rintro e w2 ⟨rfl, hb⟩
      replace HR := Lib.hid (HR.out.past hb)
      replace HW := Lib.hid (HW.out.trans (hb.mono HW.out.size))
      replace HB := Lib.hid (below_all HB.out hb)
      replace HT := Lib.hid (HT.out.past hb)
      replace HH := Lib.hid (HH.out.past hb)
      clear hb
      by_cases hlt : k < rlN b p
      · skip
        have hkd : ki < durP b p := by have := HNC.out; have := HKI.out; omega
        have hk0 : 0 ≤ ki := by have := HKI.out; omega
        have hk63 : (k : Int) < 1048576 := by omega
        have HE := Lib.hid (rlTo_succ b p k)
        obtain ⟨D, hD⟩ : ∃ D, D = partD b p ki := ⟨_, rfl⟩
        have HTV := Lib.hid hD
        have p0 : w2.cell? ⟨g0_1, 0, none⟩ = some (.int .i64 p.kind) := Rd.bcell (HH.out.get 0 rfl) 0 rfl
        have p1 : w2.cell? ⟨g0_1, 1, none⟩ = some (.int .i64 p.age) := Rd.bcell (HH.out.get 0 rfl) 1 rfl
        have p2 : w2.cell? ⟨g0_1, 2, none⟩ = some (.int .i64 p.years) := Rd.bcell (HH.out.get 0 rfl) 2 rfl
        have p3 : w2.cell? ⟨g0_1, 3, none⟩ = some (.int .i64 p.sum) := Rd.bcell (HH.out.get 0 rfl) 3 rfl
        have p4 : w2.cell? ⟨g0_1, 4, none⟩ = some (.int .i64 p.load) := Rd.bcell (HH.out.get 0 rfl) 4 rfl
        have q0 : w2.cell? ⟨g0_0, 0, none⟩ = some (.int .i64 b.first) := Rd.bcell (HH.out.get 1 rfl) 0 rfl
        have q1 : w2.cell? ⟨g0_0, 1, none⟩ = some (.slice A n cap) := Rd.bcell (HH.out.get 1 rfl) 1 rfl
        have q2 : w2.cell? ⟨g0_0, 2, none⟩ = some (.int .i64 b.rate) := Rd.bcell (HH.out.get 1 rfl) 2 rfl
        have HL_tx := Lib.hid (Rd.boxT (HH.out.get 1 rfl))
        go_wp2_with (refine wpList_load_agg rfl 26 _ rfl ⟨g0_0, 0, none⟩ rfl [.int .i64 b.first, .slice A n cap] HL_tx.out _ Try.underlying26 rfl Tab.size ?_)
        clear HL_tx
        clear p0 p1 p2 p3 p4
        clear q0 q1 q2
        refine (spec_l05D_at b A n cap (p.age + ki) _ HT.out HPO.out.toBasOk ⟨by omega, by omega⟩).mono ?_
        rw [show b.d (p.age + ki) = D from hD.symm]
        rintro e w3 ⟨rfl, hb⟩
        clear hD
        replace HR := Lib.hid (HR.out.past hb)
        replace HW := Lib.hid (HW.out.trans (hb.mono HW.out.size))
        replace HB := Lib.hid (below_all HB.out hb)
        replace HT := Lib.hid (HT.out.past hb)
        replace HH := Lib.hid (HH.out.past hb)
        clear hb
        by_cases hd : D = 0
        · skip
          have hdz : (D == 0) = true := by simp [hd]
          have hd2 : partD b p (k : Int) = 0 := by rw [← HKI.out, ← HTV.out]; exact hd
          have HZ := Lib.hid (wholeTo_stop hd2 hlt)
          have Q := Lib.hid (show rlP b p = ([], 5) by unfold rlP; rw [if_pos H1.out, if_neg (by simp [HZ.out])])
          clear hd hd2
          go_wp2
          go_ret2
          exact ⟨_, _, _, by rw [Q.out]; rfl, by rw [Q.out]; exact Res.nil_, HB.out⟩
        · skip
          have hdz : (D == 0) = false := by simp [hd]
          have hd2 : ¬ partD b p (k : Int) = 0 := by rw [← HKI.out, ← HTV.out]; exact hd
          have HZ := Lib.hid ((wholeTo_pos hd2).trans HWH.out)
          have HV := Lib.hid (show rlAt b p k = resAt b p ki by rw [HKI.out]; exact if_neg hd2)
          have HY := Lib.hid (show YearOk b p ki by rw [HKI.out]; exact year_at HPO.out hlt hd2)
          clear hd hd2
          have HL_bx := Lib.hid (Rd.box (HH.out.get 1 rfl))
          have HL_px := Lib.hid (Rd.box (HH.out.get 0 rfl))
          go_wp2_with (first | (refine wpList_load_agg rfl 28 _ rfl ⟨g0_0, 0, none⟩ rfl [.int .i64 b.first, .slice A n cap, .int .i64 b.rate] HL_bx.out _ Try.underlying28 rfl Bas.size ?_) | (refine wpList_load_agg rfl 35 _ rfl ⟨g0_1, 0, none⟩ rfl [.int .i64 p.kind, .int .i64 p.age, .int .i64 p.years, .int .i64 p.sum, .int .i64 p.load] HL_px.out _ Try.underlying35 rfl Policy.size ?_))
          clear HL_bx HL_px
          refine (spec_l11At_any b A n cap p ki _ HT.out HY.out).mono ?_
          rintro e w4 ⟨rfl, hb⟩
          replace HR := Lib.hid (HR.out.past hb)
          replace HW := Lib.hid (HW.out.trans (hb.mono HW.out.size))
          replace HB := Lib.hid (below_all HB.out hb)
          replace HT := Lib.hid (HT.out.past hb)
          replace HH := Lib.hid (HH.out.past hb)
          clear hb
          have hsx : w1.heap.size ≤ w4.heap.size := HW.out.size
          go_wp2_with (at_builtin; refine wpList_append_row w4 rfl (.tmp 30) (.tmp 35) 24 rfl (w1.heap.size) 2 i0 _ 1 8 Try.underlying24 HI.out.1 HI.out.2.1 HI.out.2.2.1 HI.out.2.2.2 rfl (by decide) (by decide) A' k c' _ rfl HR.out [.int .i64 (resAt b p ki)] _ rfl rfl (by simp [Value.oneCell']) (by omega) hsx ?_)
          intro B2 c2 w9 hR9 hb9
          have HR9 := Lib.hid hR9; clear hR9
          have hbW := HW.out.trans hb9
          go_wp2
          go_roundw
          case rel => exact ⟨k + 1, ki + 1, B2, c2, by omega, by have := HKI.out; omega, by go_num, rfl, HZ.out, by rw [HE.out, intRows_snoc, HV.out]; exact HR9.out, hbW⟩
          case measure => have hkz := HKI.out; simp [intOf]; omega
      · skip
        have hkn : k = rlN b p := by omega
        have hnd : ¬ ki < durP b p := by have := HNC.out; have := HKI.out; omega
        subst hkn
        have Q := Lib.hid (show rlP b p = (rlTo b p (rlN b p), 0) by unfold rlP; rw [if_pos H1.out, if_pos HWH.out])
        go_wp2
        go_ret2
        exact ⟨_, _, _, by rw [Q.out]; rfl, by rw [Q.out]; exact HR.out.more HB1.out.size, HB.out⟩
end Go.Proofs.Ytbjdbpdgacfcpaa
end
