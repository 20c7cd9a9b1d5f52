/- Forward reserves, rounded, and whether a year has one: the program's contracts. -/
import Derived.Test.YthcnkcoplgdlkaaPolI4
import Derived.Test.YthcnkcoplgdlkaaPortS
namespace Go.Proofs.Ythcnkcoplgdlkaa
open Go.RowKit Go.BigFrame

set_option maxHeartbeats 2000000 in
theorem impl_reserveParts_forward_any (s t n v d : Int) (w : World) (K : PartOk s t n v d) :
    Calls Try.prog 113 #[.agg #[.int .i64 t, .int .i64 v, .int .i64 d], .int .i64 s, .int .i64 n] w fun e w' => e = .returned (.tuple #[.int .i64 (fwdP s t n v d).1, .int .i64 (fwdP s t n v d).2]) ∧ Below w.heap.size w w' := by
  have hbw : Below w.heap.size w (w.alloc (.cells #[.int .i64 t, .int .i64 v, .int .i64 d] 103)) := (Below.refl _ w).alloc (Nat.le_refl _) _
  have HB := Lib.hid (Blk.new w 103 #[.int .i64 t, .int .i64 v, .int .i64 d])
  have q1 := K.s0; have q2 := K.s1; have q3 := K.n0; have q4 := K.n1; have q5 := K.t0; have q6 := K.t1; have q7 := K.v0; have q8 := K.v1; have q9 := K.d0; have q10 := K.d1
  obtain ⟨⟨p1, p2⟩, p3, p4⟩ := part_quo K
  obtain ⟨⟨p5, p6⟩, p7, p8⟩ := part_rest K
  have HF := Lib.hid (fun h => fwd_low K h); have HG := Lib.hid (fun h => fwd_high K h)
  have QM1 := Lib.hid (show mdP s t d = (s * t / d, s * t % d, true) by unfold mdP; rw [if_pos (by omega)])
  have QM2 := Lib.hid (show mdP n v d = (n * v / d, n * v % d, true) by unfold mdP; rw [if_pos (by omega)])
  clear K
  generalize s * t / d = oq at *
  generalize s * t % d = orr at *
  generalize n * v / d = iq at *
  generalize n * v % d = ir at *
  by_cases hlt : orr < ir
  · have Q := Lib.hid (HF.out hlt)
    go_enter Try.func113, Try.ntmps113
    go_wp2_with fail
    refine (impl_multiplyDivide_any s t d _ ⟨by omega, by omega⟩ ⟨by omega, by omega⟩ ⟨by omega, by omega⟩).mono ?_
    rw [QM1.out]
    rintro e w1 ⟨rfl, hb1⟩
    have HB1 := Lib.hid (HB.out.below' hb1)
    have c1 : w1.cell? ⟨w.heap.size, 1, none⟩ = some (.int .i64 v) := HB1.out.cell 1
    have c2 : w1.cell? ⟨w.heap.size, 2, none⟩ = some (.int .i64 d) := HB1.out.cell 2
    go_wp2_with fail
    refine (impl_multiplyDivide_any n v d _ ⟨by omega, by omega⟩ ⟨by omega, by omega⟩ ⟨by omega, by omega⟩).mono ?_
    rw [QM2.out]
    rintro e w2 ⟨rfl, hb2⟩
    have d2 : w2.cell? ⟨w.heap.size, 2, none⟩ = some (.int .i64 d) := (HB1.out.below' hb2).cell 2
    have e2 := fun y : Past w2 => Past.cell d2 y
    clear c1 c2
    have hb02 := hbw.trans ((below_step hb1 hb2).mono hbw.size)
    go_wp2
    refine wp_region_past (by kernel_rfl) (by kernel_rfl) ?_
    repeat (go_big_quiet_step (fail))
    refine wpQuiet_nil ?_
    rintro _ ⟨y, rfl⟩
    go_wp2
    go_ret2
    exact ⟨by rw [Q.out]; rfl, hb02.trans (y.2.mono hb02.size)⟩
  · have Q := Lib.hid (HG.out hlt)
    go_enter Try.func113, Try.ntmps113
    go_wp2_with fail
    refine (impl_multiplyDivide_any s t d _ ⟨by omega, by omega⟩ ⟨by omega, by omega⟩ ⟨by omega, by omega⟩).mono ?_
    rw [QM1.out]
    rintro e w1 ⟨rfl, hb1⟩
    have HB1 := Lib.hid (HB.out.below' hb1)
    have c1 : w1.cell? ⟨w.heap.size, 1, none⟩ = some (.int .i64 v) := HB1.out.cell 1
    have c2 : w1.cell? ⟨w.heap.size, 2, none⟩ = some (.int .i64 d) := HB1.out.cell 2
    go_wp2_with fail
    refine (impl_multiplyDivide_any n v d _ ⟨by omega, by omega⟩ ⟨by omega, by omega⟩ ⟨by omega, by omega⟩).mono ?_
    rw [QM2.out]
    rintro e w2 ⟨rfl, hb2⟩
    have hb02 := hbw.trans ((below_step hb1 hb2).mono hbw.size)
    go_wp2
    go_ret2
    exact ⟨by rw [Q.out]; rfl, hb02⟩

theorem impl_reserveParts_rounded_any (s t n v d : Int) (w : World) (K : PartOk s t n v d) :
    Calls Try.prog 161 #[.agg #[.int .i64 t, .int .i64 v, .int .i64 d], .int .i64 s, .int .i64 n] w fun e w' => e = .returned (.int .i64 (roundP (fwdP s t n v d))) ∧ Below w.heap.size w w' := by
  have hbw : Below w.heap.size w (w.alloc (.cells #[.int .i64 t, .int .i64 v, .int .i64 d] 103)) := (Below.refl _ w).alloc (Nat.le_refl _) _
  have HF := Lib.hid (fwd_bound K)
  have HK := Lib.hid K
  have d8 := K.d1
  clear K
  obtain ⟨F, hF⟩ : ∃ F, fwdP s t n v d = F := ⟨_, rfl⟩
  rw [hF] at HF ⊢
  have HFF := Lib.hid hF; clear hF
  obtain ⟨⟨g1, g2⟩, g3, g4⟩ := HF.out
  unfold roundP
  obtain ⟨F1, F2⟩ := F
  simp only at g1 g2 g3 g4 ⊢
  by_cases hr : 0 < F2
  · rw [if_pos hr]
    obtain ⟨m, hm⟩ : ∃ m, max 0 (F1 + 1) = m := ⟨_, rfl⟩
    have HM := Lib.hid hm
    go_enter Try.func161, Try.ntmps161
    go_wp2_with fail
    refine (impl_reserveParts_forward_any s t n v d _ HK.out).mono ?_
    rw [HFF.out]
    rintro e w1 ⟨rfl, hb1⟩
    go_wp2
    all_goals (go_ret; exact ⟨by first | rfl | (rw [HM.out]; rfl) | (congr 2; omega) | (simp; omega), hbw.trans (hb1.mono hbw.size)⟩)
  · rw [if_neg hr]
    go_enter Try.func161, Try.ntmps161
    go_wp2_with fail
    refine (impl_reserveParts_forward_any s t n v d _ HK.out).mono ?_
    rw [HFF.out]
    rintro e w1 ⟨rfl, hb1⟩
    go_wp2
    all_goals (go_ret; exact ⟨by first | rfl | (congr 2; done) | (congr 2; omega) | (simp; done) | (simp; omega), hbw.trans (hb1.mono hbw.size)⟩)


def resParts (b : Bas) (p : Policy) (k : Int) : List Value := if resCode b p k = 0 then [.int .i64 (partT b p k), .int .i64 (partB b p k), .int .i64 (partD b p k)] else [.int .i64 0, .int .i64 0, .int .i64 0]
theorem code_year {b : Bas} {p : Policy} {k : Int} (h1 : polB b p = true) (h2 : inR k 0 (durP b p - 1) = true) : resCode b p k = if partD b p k = 0 then 5 else 0 := by
  unfold resCode; rw [if_pos h1, if_pos h2]; rfl
set_option maxRecDepth 100000 in
set_option maxHeartbeats 6000000 in
theorem impl_checkReserve_any (b : Bas) (A : Option Addr) (n cap : Nat) (p : Policy) (k : Int) (w : World) (hB : BasT w A n cap b) (hp : p.fits) (_hk : In64 k) :
    Calls Try.prog 110 #[.agg #[.int .i64 b.first, .slice A n cap, .int .i64 b.rate], .agg p.row.toArray, .int .i64 k] w fun e w' => e = .returned (.tuple #[.agg (resParts b p k).toArray, .int .i64 (resCode b p k)]) ∧ Below w.heap.size w w' := by
  have hbw : Below w.heap.size w (((w.alloc (.cells #[.int .i64 b.first, .slice A n cap, .int .i64 b.rate] 32)).alloc (.cells #[.int .i64 p.kind, .int .i64 p.age, .int .i64 p.years, .int .i64 p.sum, .int .i64 p.load] 44)).alloc (.cells #[.int .i64 0, .int .i64 0, .int .i64 0] 103)) := (((Below.refl _ w).alloc (Nat.le_refl _) _).alloc (by simp) _).alloc (by simp <;> omega) _
  have HB := Lib.hid (((Blk.new w 32 #[.int .i64 b.first, .slice A n cap, .int .i64 b.rate]).alloc (.cells #[.int .i64 p.kind, .int .i64 p.age, .int .i64 p.years, .int .i64 p.sum, .int .i64 p.load] 44)).alloc (.cells #[.int .i64 0, .int .i64 0, .int .i64 0] 103))
  have HP := Lib.hid ((Blk.new (w.alloc (.cells #[.int .i64 b.first, .slice A n cap, .int .i64 b.rate] 32)) 44 #[.int .i64 p.kind, .int .i64 p.age, .int .i64 p.years, .int .i64 p.sum, .int .i64 p.load]).alloc (.cells #[.int .i64 0, .int .i64 0, .int .i64 0] 103))
  have HR := Lib.hid (Blk.new ((w.alloc (.cells #[.int .i64 b.first, .slice A n cap, .int .i64 b.rate] 32)).alloc (.cells #[.int .i64 p.kind, .int .i64 p.age, .int .i64 p.years, .int .i64 p.sum, .int .i64 p.load] 44)) 103 #[.int .i64 0, .int .i64 0, .int .i64 0])
  simp only [World.size_alloc] at HP HR
  have HBT := Lib.hid (hB.past hbw); clear hB
  unfold Policy.row at *
  have H1d : Hid (∀ v ∈ ([.int .i64 0, .int .i64 0, .int .i64 0] : List Value), v.oneCell' = true) := Lib.hid (by simp [Value.oneCell'])
  cases h1 : polB b p
  · have Q := Lib.hid (show resCode b p k = 1 by simp [resCode, h1])
    have QP := Lib.hid (show resParts b p k = [.int .i64 0, .int .i64 0, .int .i64 0] by unfold resParts; rw [Q.out]; rfl)
    go_enter Try.func110, Try.ntmps110
    go_wp2_with fail
    refine (impl_IsPolicy_any b A n cap p _ HBT.out hp).mono ?_
    rw [h1]
    rintro e w1 ⟨rfl, hb1⟩
    have HR1 := Lib.hid (HR.out.below' hb1)
    have hb01 := hbw.trans (hb1.mono hbw.size)
    go_wp2_with (refine wpList_store_agg rfl 103 _ _ rfl (w.heap.size + 2) 0 [.int .i64 0, .int .i64 0, .int .i64 0] rfl rfl 103 #[.int .i64 0, .int .i64 0, .int .i64 0] HR1.out ReserveParts.size (by simp) H1d.out ?_)
    intro w6 hR6 hg6 _
    have hR6' : Blk w6 (w.heap.size + 2) 103 #[.int .i64 0, .int .i64 0, .int .i64 0] := hR6
    have r0 : w6.cell? ⟨w.heap.size + 2, 0, none⟩ = some (.int .i64 0) := hR6'.cell 0
    have r1 : w6.cell? ⟨w.heap.size + 2, 1, none⟩ = some (.int .i64 0) := hR6'.cell 1
    have r2 : w6.cell? ⟨w.heap.size + 2, 2, none⟩ = some (.int .i64 0) := hR6'.cell 2
    go_wp2
    refine bodyPost_ret (v := .tuple #[.agg #[.int .i64 0, .int .i64 0, .int .i64 0], .int .i64 1]) (by simp [results, Try.results110, go_sem, r0, r1, r2]) rfl ⟨by rw [QP.out, Q.out], hb01.grown hg6 hb01.size (fun k hk => by injection hk with hk; omega)⟩
  have HPO := Lib.hid (pol_ok h1)
  have dl := dur_low HPO.out
  have dh := dur_bound HPO.out
  cases h2 : inR k 0 (durP b p - 1)
  · have Q := Lib.hid (show resCode b p k = 2 by simp [resCode, h1, h2])
    have QP := Lib.hid (show resParts b p k = [.int .i64 0, .int .i64 0, .int .i64 0] by unfold resParts; rw [Q.out]; rfl)
    go_enter Try.func110, Try.ntmps110
    go_wp2_with fail
    refine (impl_IsPolicy_any b A n cap p _ HBT.out hp).mono ?_
    rw [h1]
    rintro e w1 ⟨rfl, hb1⟩
    have HB1 := Lib.hid (HB.out.below' hb1); have HP1 := Lib.hid (HP.out.below' hb1); have HR1 := Lib.hid (HR.out.below' hb1); have HBT1 := Lib.hid (HBT.out.past hb1)
    have hcT := Lib.hid (Blk.agg (cs := [.int .i64 b.first, .slice A n cap, .int .i64 b.rate]) HB1.out 0 [.int .i64 b.first, .slice A n cap] rfl)
    have hcB := Lib.hid (Blk.agg (cs := [.int .i64 b.first, .slice A n cap, .int .i64 b.rate]) HB1.out 0 [.int .i64 b.first, .slice A n cap, .int .i64 b.rate] rfl)
    have hcP := Lib.hid (Blk.agg (cs := [.int .i64 p.kind, .int .i64 p.age, .int .i64 p.years, .int .i64 p.sum, .int .i64 p.load]) HP1.out 0 [.int .i64 p.kind, .int .i64 p.age, .int .i64 p.years, .int .i64 p.sum, .int .i64 p.load] rfl)
    go_wp2_with (first | (refine wpList_load_agg rfl 32 _ rfl ⟨w.heap.size, 0, none⟩ rfl [.int .i64 b.first, .slice A n cap, .int .i64 b.rate] hcB.out _ Try.underlying32 rfl Bas.size ?_) | (refine wpList_load_agg rfl 44 _ rfl ⟨w.heap.size + 1, 0, none⟩ rfl [.int .i64 p.kind, .int .i64 p.age, .int .i64 p.years, .int .i64 p.sum, .int .i64 p.load] hcP.out _ Try.underlying44 rfl Policy.size ?_))
    refine (impl_durationOf_any b A n cap p _ HBT1.out HPO.out).mono ?_
    rintro e w2 ⟨rfl, hb2⟩
    have HR2 := Lib.hid (HR1.out.below' hb2)
    have hb02 := hbw.trans ((below_step hb1 hb2).mono hbw.size)
    clear hcT hcB hcP
    go_wp2_with (first | (go_at_call 85; refine (impl_inRange_any _ _ _ _).mono ?_; rintro e w' ⟨rfl, rfl⟩) | (refine wpList_store_agg rfl 103 _ _ rfl (w.heap.size + 2) 0 [.int .i64 0, .int .i64 0, .int .i64 0] rfl rfl 103 #[.int .i64 0, .int .i64 0, .int .i64 0] HR2.out ReserveParts.size (by simp) H1d.out ?_))
    intro w6 hR6 hg6 _
    have hR6' : Blk w6 (w.heap.size + 2) 103 #[.int .i64 0, .int .i64 0, .int .i64 0] := hR6
    have r0 : w6.cell? ⟨w.heap.size + 2, 0, none⟩ = some (.int .i64 0) := hR6'.cell 0
    have r1 : w6.cell? ⟨w.heap.size + 2, 1, none⟩ = some (.int .i64 0) := hR6'.cell 1
    have r2 : w6.cell? ⟨w.heap.size + 2, 2, none⟩ = some (.int .i64 0) := hR6'.cell 2
    go_wp2
    refine bodyPost_ret (v := .tuple #[.agg #[.int .i64 0, .int .i64 0, .int .i64 0], .int .i64 2]) (by simp [results, Try.results110, go_sem, r0, r1, r2]) rfl ⟨by rw [QP.out, Q.out], hb02.grown hg6 hb02.size (fun k hk => by injection hk with hk; omega)⟩
  have hcy := code_year h1 h2
  obtain ⟨k0, k1⟩ := inR_true.1 h2
  go_enter Try.func110, Try.ntmps110
  go_wp2_with fail
  refine (impl_IsPolicy_any b A n cap p _ HBT.out hp).mono ?_
  rw [h1]
  rintro e w1 ⟨rfl, hb1⟩
  have HB1 := Lib.hid (HB.out.below' hb1); have HP1 := Lib.hid (HP.out.below' hb1); have HR1 := Lib.hid (HR.out.below' hb1); have HBT1 := Lib.hid (HBT.out.past hb1)
  have hcT := Lib.hid (Blk.agg (cs := [.int .i64 b.first, .slice A n cap, .int .i64 b.rate]) HB1.out 0 [.int .i64 b.first, .slice A n cap] rfl)
  have hcB := Lib.hid (Blk.agg (cs := [.int .i64 b.first, .slice A n cap, .int .i64 b.rate]) HB1.out 0 [.int .i64 b.first, .slice A n cap, .int .i64 b.rate] rfl)
  have hcP := Lib.hid (Blk.agg (cs := [.int .i64 p.kind, .int .i64 p.age, .int .i64 p.years, .int .i64 p.sum, .int .i64 p.load]) HP1.out 0 [.int .i64 p.kind, .int .i64 p.age, .int .i64 p.years, .int .i64 p.sum, .int .i64 p.load] rfl)
  go_wp2_with (first | (refine wpList_load_agg rfl 32 _ rfl ⟨w.heap.size, 0, none⟩ rfl [.int .i64 b.first, .slice A n cap, .int .i64 b.rate] hcB.out _ Try.underlying32 rfl Bas.size ?_) | (refine wpList_load_agg rfl 44 _ rfl ⟨w.heap.size + 1, 0, none⟩ rfl [.int .i64 p.kind, .int .i64 p.age, .int .i64 p.years, .int .i64 p.sum, .int .i64 p.load] hcP.out _ Try.underlying44 rfl Policy.size ?_))
  refine (impl_durationOf_any b A n cap p _ HBT1.out HPO.out).mono ?_
  rintro e w2 ⟨rfl, hb2⟩
  have HB2 := Lib.hid (HB1.out.below' hb2); have HP2 := Lib.hid (HP1.out.below' hb2); have HR2 := Lib.hid (HR1.out.below' hb2); have HBT2 := Lib.hid (HBT1.out.past hb2)
  have hb02 := hbw.trans ((below_step hb1 hb2).mono hbw.size)
  clear hcT hcB hcP
  have HS := Lib.hid (show ∀ w', Below w2.heap.size w2 w' → w'.cell? ⟨w.heap.size, 0, none⟩ = some (.int .i64 b.first) ∧ w'.cell? ⟨w.heap.size, 1, none⟩ = some (.slice A n cap) ∧ w'.cell? ⟨w.heap.size, 2, none⟩ = some (.int .i64 b.rate) ∧ w'.cell? ⟨w.heap.size + 1, 0, none⟩ = some (.int .i64 p.kind) ∧ w'.cell? ⟨w.heap.size + 1, 1, none⟩ = some (.int .i64 p.age) ∧ w'.cell? ⟨w.heap.size + 1, 2, none⟩ = some (.int .i64 p.years) ∧ w'.cell? ⟨w.heap.size + 1, 3, none⟩ = some (.int .i64 p.sum) ∧ w'.cell? ⟨w.heap.size + 1, 4, none⟩ = some (.int .i64 p.load) from fun w' h => by
    have HB' := HB2.out.below' h
    have HP' := HP2.out.below' h
    exact ⟨(HB'.cell 0), (HB'.cell 1), (HB'.cell 2), (HP'.cell 0), (HP'.cell 1), (HP'.cell 2), (HP'.cell 3), (HP'.cell 4)⟩)
  go_wp2_with (first | (go_at_call 85; refine (impl_inRange_any _ _ _ _).mono ?_; rintro e w' ⟨rfl, rfl⟩))
  have HS2 := Lib.hid (show ∀ w', Below w2.heap.size w2 w' → Below w2.heap.size w2 w' ∧ w'.cell? ⟨w.heap.size, 0, none⟩ = some (.int .i64 b.first) ∧ w'.cell? ⟨w.heap.size, 1, none⟩ = some (.slice A n cap) ∧ w'.cell? ⟨w.heap.size, 2, none⟩ = some (.int .i64 b.rate) ∧ w'.cell? ⟨w.heap.size + 1, 0, none⟩ = some (.int .i64 p.kind) ∧ w'.cell? ⟨w.heap.size + 1, 1, none⟩ = some (.int .i64 p.age) ∧ w'.cell? ⟨w.heap.size + 1, 2, none⟩ = some (.int .i64 p.years) ∧ w'.cell? ⟨w.heap.size + 1, 3, none⟩ = some (.int .i64 p.sum) ∧ w'.cell? ⟨w.heap.size + 1, 4, none⟩ = some (.int .i64 p.load) from fun w' h => ⟨h, HS.out w' h⟩)
  go_region_held3 (fun w' => Below w2.heap.size w2 w' ∧ w'.cell? ⟨w.heap.size, 0, none⟩ = some (.int .i64 b.first) ∧ w'.cell? ⟨w.heap.size, 1, none⟩ = some (.slice A n cap) ∧ w'.cell? ⟨w.heap.size, 2, none⟩ = some (.int .i64 b.rate) ∧ w'.cell? ⟨w.heap.size + 1, 0, none⟩ = some (.int .i64 p.kind) ∧ w'.cell? ⟨w.heap.size + 1, 1, none⟩ = some (.int .i64 p.age) ∧ w'.cell? ⟨w.heap.size + 1, 2, none⟩ = some (.int .i64 p.years) ∧ w'.cell? ⟨w.heap.size + 1, 3, none⟩ = some (.int .i64 p.sum) ∧ w'.cell? ⟨w.heap.size + 1, 4, none⟩ = some (.int .i64 p.load)) (first | exact HS2.out _ (Below.drew (Below.refl _ _)) | exact HS2.out _ hc4 | exact HS2.out _ hc3 | exact HS2.out _ (Below.alloc hc4 hc4.size _) | (rename Below w2.heap.size w2 _ ∧ _ => hH; exact HS2.out _ (Below.alloc hH.1 hH.1.size _)) | exact HS2.out _ (Below.setCell (Below.setCell (Below.setCell hc4 (by first | exact Nat.le_refl _ | exact hc3.size) _) (by first | exact Nat.le_refl _ | exact hc3.size) _) (by first | exact Nat.le_refl _ | exact hc3.size) _)) (first | (go_at_call 169; rename Below w2.heap.size w2 _ ∧ _ => hH; have hHB := HBT2.out.past hH.1; refine (impl_columnsOf_any b.first A n cap b.lives b.rate _ hHB.lives HPO.out.tab ⟨HPO.out.rate0, HPO.out.rate1⟩).mono ?_; rintro e w3 ⟨g, rfl, hL, hb3⟩; have hc3 : Below w2.heap.size w2 w3 := Below.trans hH.1 (hb3.mono hH.1.size); have HL3 := Lib.hid hL; clear hL; (first | (have HZ3 := Lib.hid ((Blk.new w2.drew 103 #[.int .i64 0, .int .i64 0, .int .i64 0]).below' hb3); have za0 : w3.cell? ⟨w2.heap.size, 0, none⟩ = some (.int .i64 0) := (HZ3.out).cell 0; have za1 : w3.cell? ⟨w2.heap.size, 1, none⟩ = some (.int .i64 0) := (HZ3.out).cell 1; have za2 : w3.cell? ⟨w2.heap.size, 2, none⟩ = some (.int .i64 0) := (HZ3.out).cell 2; have zaf0 : w3.frozen? ⟨w2.heap.size, 0, none⟩ = false := (HZ3.out).frozen 0; have zaf1 : w3.frozen? ⟨w2.heap.size, 1, none⟩ = false := (HZ3.out).frozen 1; have zaf2 : w3.frozen? ⟨w2.heap.size, 2, none⟩ = false := (HZ3.out).frozen 2) | skip)) | (go_at_call 176; rename Below w2.heap.size w2 _ ∧ _ => hH; have hHB := HBT2.out.past hH.1; refine (impl_partsAt_any b A n cap p (some ⟨g, 0, none⟩) _ k _ hHB HPO.out ⟨k0, k1⟩ (by first | exact HL3.out | exact (HL3.out.alloc (Nat.le_refl _) _).more (by simp))).mono ?_; rintro e w4 ⟨rfl, hb4⟩; have hc4 : Below w2.heap.size w2 w4 := Below.trans hH.1 (hb4.mono hH.1.size); (first | (have HZ4 := Lib.hid ((Blk.new w3 103 #[.int .i64 0, .int .i64 0, .int .i64 0]).below' hb4); have zb0 : w4.cell? ⟨w3.heap.size, 0, none⟩ = some (.int .i64 0) := (HZ4.out).cell 0; have zb1 : w4.cell? ⟨w3.heap.size, 1, none⟩ = some (.int .i64 0) := (HZ4.out).cell 1; have zb2 : w4.cell? ⟨w3.heap.size, 2, none⟩ = some (.int .i64 0) := (HZ4.out).cell 2; have zbf0 : w4.frozen? ⟨w3.heap.size, 0, none⟩ = false := (HZ4.out).frozen 0; have zbf1 : w4.frozen? ⟨w3.heap.size, 1, none⟩ = false := (HZ4.out).frozen 1; have zbf2 : w4.frozen? ⟨w3.heap.size, 2, none⟩ = false := (HZ4.out).frozen 2) | (have HZ4 := Lib.hid (HZ3.out.below' hb4); have zc0 : w4.cell? ⟨w2.heap.size, 0, none⟩ = some (.int .i64 0) := (HZ4.out).cell 0; have zc1 : w4.cell? ⟨w2.heap.size, 1, none⟩ = some (.int .i64 0) := (HZ4.out).cell 1; have zc2 : w4.cell? ⟨w2.heap.size, 2, none⟩ = some (.int .i64 0) := (HZ4.out).cell 2; have zcf0 : w4.frozen? ⟨w2.heap.size, 0, none⟩ = false := (HZ4.out).frozen 0; have zcf1 : w4.frozen? ⟨w2.heap.size, 1, none⟩ = false := (HZ4.out).frozen 1; have zcf2 : w4.frozen? ⟨w2.heap.size, 2, none⟩ = false := (HZ4.out).frozen 2) | skip)))
  all_goals (rename Below w2.heap.size w2 _ ∧ _ => hE; replace hE := hE.1)
  · have hK : Blk (w4.alloc (.cells #[.int .i64 (partT b p k), .int .i64 (partB b p k), .int .i64 (partD b p k)] 103)) (w4.heap.size) 103 #[.int .i64 (partT b p k), .int .i64 (partB b p k), .int .i64 (partD b p k)] := Blk.new w4 _ _
    have hGle : w2.heap.size ≤ w4.heap.size := hc4.size
    have HW := Lib.hid (And.intro hE (And.intro hK hGle)); clear hK hGle hE
    generalize (w4.alloc (.cells #[.int .i64 (partT b p k), .int .i64 (partB b p k), .int .i64 (partD b p k)] 103)) = W5 at HW ⊢
    generalize w4.heap.size = G5 at HW ⊢
    obtain ⟨hE, hK, hGle⟩ := HW.out
    have HE := Lib.hid hE; have HK := Lib.hid hK
    have c2 : W5.cell? ⟨G5, 2, none⟩ = some (.int .i64 (partD b p k)) := hK.cell 2
    have HR5 := Lib.hid (HR2.out.below' hE)
    have hb05 := hb02.trans (hE.mono hb02.size)
    have hcR := Lib.hid (Blk.agg (cs := [.int .i64 (partT b p k), .int .i64 (partB b p k), .int .i64 (partD b p k)]) hK 0 [.int .i64 (partT b p k), .int .i64 (partB b p k), .int .i64 (partD b p k)] rfl)
    clear hE hK
    by_cases h0 : partD b p k = 0
    · have QZ := Lib.hid (show resCode b p k = 5 by rw [hcy, if_pos h0])
      have QP := Lib.hid (show resParts b p k = [.int .i64 0, .int .i64 0, .int .i64 0] by unfold resParts; rw [QZ.out]; rfl)
      have QB : (partD b p k == 0) = true := by simp [h0]
      go_wp2_with (refine wpList_store_agg rfl 103 _ _ rfl (w.heap.size + 2) 0 [.int .i64 0, .int .i64 0, .int .i64 0] rfl rfl 103 #[.int .i64 0, .int .i64 0, .int .i64 0] HR5.out ReserveParts.size (by simp) H1d.out ?_)
      intro w6 hR6 hg6 _
      have hR6' : Blk w6 (w.heap.size + 2) 103 #[.int .i64 0, .int .i64 0, .int .i64 0] := hR6
      have r0 : w6.cell? ⟨w.heap.size + 2, 0, none⟩ = some (.int .i64 0) := hR6'.cell 0
      have r1 : w6.cell? ⟨w.heap.size + 2, 1, none⟩ = some (.int .i64 0) := hR6'.cell 1
      have r2 : w6.cell? ⟨w.heap.size + 2, 2, none⟩ = some (.int .i64 0) := hR6'.cell 2
      go_wp2
      refine bodyPost_ret (v := .tuple #[.agg #[.int .i64 0, .int .i64 0, .int .i64 0], .int .i64 5]) (by simp [results, Try.results110, go_sem, r0, r1, r2]) rfl ⟨by rw [QP.out, QZ.out], hb05.grown hg6 hb05.size (fun k hk => by injection hk with hk; omega)⟩
    · have QZ := Lib.hid (show resCode b p k = 0 by rw [hcy, if_neg h0])
      have QP := Lib.hid (show resParts b p k = [.int .i64 (partT b p k), .int .i64 (partB b p k), .int .i64 (partD b p k)] by unfold resParts; rw [QZ.out]; rfl)
      have H1e : Hid (∀ v ∈ ([.int .i64 (partT b p k), .int .i64 (partB b p k), .int .i64 (partD b p k)] : List Value), v.oneCell' = true) := Lib.hid (by simp [Value.oneCell'])
      have QB : (partD b p k == 0) = false := by simp [h0]
      go_wp2_with (first | (refine wpList_load_agg rfl 103 _ rfl ⟨G5, 0, none⟩ rfl [.int .i64 (partT b p k), .int .i64 (partB b p k), .int .i64 (partD b p k)] hcR.out _ Try.underlying103 rfl ReserveParts.size ?_) | (refine wpList_store_agg rfl 103 _ _ rfl (w.heap.size + 2) 0 [.int .i64 (partT b p k), .int .i64 (partB b p k), .int .i64 (partD b p k)] rfl rfl 103 #[.int .i64 0, .int .i64 0, .int .i64 0] HR5.out ReserveParts.size (by simp) H1e.out ?_))
      intro w6 hR6 hg6 _
      have hR6' : Blk w6 (w.heap.size + 2) 103 #[.int .i64 (partT b p k), .int .i64 (partB b p k), .int .i64 (partD b p k)] := hR6
      have r0 : w6.cell? ⟨w.heap.size + 2, 0, none⟩ = some (.int .i64 (partT b p k)) := hR6'.cell 0
      have r1 : w6.cell? ⟨w.heap.size + 2, 1, none⟩ = some (.int .i64 (partB b p k)) := hR6'.cell 1
      have r2 : w6.cell? ⟨w.heap.size + 2, 2, none⟩ = some (.int .i64 (partD b p k)) := hR6'.cell 2
      go_wp2
      refine bodyPost_ret (v := .tuple #[.agg #[.int .i64 (partT b p k), .int .i64 (partB b p k), .int .i64 (partD b p k)], .int .i64 0]) (by simp [results, Try.results110, go_sem, r0, r1, r2]) rfl ⟨by rw [QP.out, QZ.out], hb05.grown hg6 hb05.size (fun k hk => by injection hk with hk; omega)⟩
  · have hK : Blk (((w4.setCell ⟨w3.heap.size, 0, none⟩ (.int .i64 (partT b p k))).setCell ⟨w3.heap.size, 1, none⟩ (.int .i64 (partB b p k))).setCell ⟨w3.heap.size, 2, none⟩ (.int .i64 (partD b p k))) (w3.heap.size) 103 #[.int .i64 (partT b p k), .int .i64 (partB b p k), .int .i64 (partD b p k)] := by simpa using ((HZ4.out.set_ 0 (.int .i64 (partT b p k))).set_ 1 (.int .i64 (partB b p k))).set_ 2 (.int .i64 (partD b p k))
    have hGle : w2.heap.size ≤ w3.heap.size := hc3.size
    have HW := Lib.hid (And.intro hE (And.intro hK hGle)); clear hK hGle hE
    generalize (((w4.setCell ⟨w3.heap.size, 0, none⟩ (.int .i64 (partT b p k))).setCell ⟨w3.heap.size, 1, none⟩ (.int .i64 (partB b p k))).setCell ⟨w3.heap.size, 2, none⟩ (.int .i64 (partD b p k))) = W5 at HW ⊢
    generalize w3.heap.size = G5 at HW ⊢
    obtain ⟨hE, hK, hGle⟩ := HW.out
    have HE := Lib.hid hE; have HK := Lib.hid hK
    have c2 : W5.cell? ⟨G5, 2, none⟩ = some (.int .i64 (partD b p k)) := hK.cell 2
    have HR5 := Lib.hid (HR2.out.below' hE)
    have hb05 := hb02.trans (hE.mono hb02.size)
    have hcR := Lib.hid (Blk.agg (cs := [.int .i64 (partT b p k), .int .i64 (partB b p k), .int .i64 (partD b p k)]) hK 0 [.int .i64 (partT b p k), .int .i64 (partB b p k), .int .i64 (partD b p k)] rfl)
    clear hE hK
    by_cases h0 : partD b p k = 0
    · have QZ := Lib.hid (show resCode b p k = 5 by rw [hcy, if_pos h0])
      have QP := Lib.hid (show resParts b p k = [.int .i64 0, .int .i64 0, .int .i64 0] by unfold resParts; rw [QZ.out]; rfl)
      have QB : (partD b p k == 0) = true := by simp [h0]
      go_wp2_with (refine wpList_store_agg rfl 103 _ _ rfl (w.heap.size + 2) 0 [.int .i64 0, .int .i64 0, .int .i64 0] rfl rfl 103 #[.int .i64 0, .int .i64 0, .int .i64 0] HR5.out ReserveParts.size (by simp) H1d.out ?_)
      intro w6 hR6 hg6 _
      have hR6' : Blk w6 (w.heap.size + 2) 103 #[.int .i64 0, .int .i64 0, .int .i64 0] := hR6
      have r0 : w6.cell? ⟨w.heap.size + 2, 0, none⟩ = some (.int .i64 0) := hR6'.cell 0
      have r1 : w6.cell? ⟨w.heap.size + 2, 1, none⟩ = some (.int .i64 0) := hR6'.cell 1
      have r2 : w6.cell? ⟨w.heap.size + 2, 2, none⟩ = some (.int .i64 0) := hR6'.cell 2
      go_wp2
      refine bodyPost_ret (v := .tuple #[.agg #[.int .i64 0, .int .i64 0, .int .i64 0], .int .i64 5]) (by simp [results, Try.results110, go_sem, r0, r1, r2]) rfl ⟨by rw [QP.out, QZ.out], hb05.grown hg6 hb05.size (fun k hk => by injection hk with hk; omega)⟩
    · have QZ := Lib.hid (show resCode b p k = 0 by rw [hcy, if_neg h0])
      have QP := Lib.hid (show resParts b p k = [.int .i64 (partT b p k), .int .i64 (partB b p k), .int .i64 (partD b p k)] by unfold resParts; rw [QZ.out]; rfl)
      have H1e : Hid (∀ v ∈ ([.int .i64 (partT b p k), .int .i64 (partB b p k), .int .i64 (partD b p k)] : List Value), v.oneCell' = true) := Lib.hid (by simp [Value.oneCell'])
      have QB : (partD b p k == 0) = false := by simp [h0]
      go_wp2_with (first | (refine wpList_load_agg rfl 103 _ rfl ⟨G5, 0, none⟩ rfl [.int .i64 (partT b p k), .int .i64 (partB b p k), .int .i64 (partD b p k)] hcR.out _ Try.underlying103 rfl ReserveParts.size ?_) | (refine wpList_store_agg rfl 103 _ _ rfl (w.heap.size + 2) 0 [.int .i64 (partT b p k), .int .i64 (partB b p k), .int .i64 (partD b p k)] rfl rfl 103 #[.int .i64 0, .int .i64 0, .int .i64 0] HR5.out ReserveParts.size (by simp) H1e.out ?_))
      intro w6 hR6 hg6 _
      have hR6' : Blk w6 (w.heap.size + 2) 103 #[.int .i64 (partT b p k), .int .i64 (partB b p k), .int .i64 (partD b p k)] := hR6
      have r0 : w6.cell? ⟨w.heap.size + 2, 0, none⟩ = some (.int .i64 (partT b p k)) := hR6'.cell 0
      have r1 : w6.cell? ⟨w.heap.size + 2, 1, none⟩ = some (.int .i64 (partB b p k)) := hR6'.cell 1
      have r2 : w6.cell? ⟨w.heap.size + 2, 2, none⟩ = some (.int .i64 (partD b p k)) := hR6'.cell 2
      go_wp2
      refine bodyPost_ret (v := .tuple #[.agg #[.int .i64 (partT b p k), .int .i64 (partB b p k), .int .i64 (partD b p k)], .int .i64 0]) (by simp [results, Try.results110, go_sem, r0, r1, r2]) rfl ⟨by rw [QP.out, QZ.out], hb05.grown hg6 hb05.size (fun k hk => by injection hk with hk; omega)⟩
  · have hK : Blk (((w4.setCell ⟨w2.heap.size, 0, none⟩ (.int .i64 (partT b p k))).setCell ⟨w2.heap.size, 1, none⟩ (.int .i64 (partB b p k))).setCell ⟨w2.heap.size, 2, none⟩ (.int .i64 (partD b p k))) (w2.heap.size) 103 #[.int .i64 (partT b p k), .int .i64 (partB b p k), .int .i64 (partD b p k)] := by simpa using ((HZ4.out.set_ 0 (.int .i64 (partT b p k))).set_ 1 (.int .i64 (partB b p k))).set_ 2 (.int .i64 (partD b p k))
    have hGle : w2.heap.size ≤ w2.heap.size := Nat.le_refl _
    have HW := Lib.hid (And.intro hE (And.intro hK hGle)); clear hK hGle hE
    generalize (((w4.setCell ⟨w2.heap.size, 0, none⟩ (.int .i64 (partT b p k))).setCell ⟨w2.heap.size, 1, none⟩ (.int .i64 (partB b p k))).setCell ⟨w2.heap.size, 2, none⟩ (.int .i64 (partD b p k))) = W5 at HW ⊢
    obtain ⟨hE, hK, hGle⟩ := HW.out
    have HE := Lib.hid hE; have HK := Lib.hid hK
    have c2 : W5.cell? ⟨w2.heap.size, 2, none⟩ = some (.int .i64 (partD b p k)) := hK.cell 2
    have HR5 := Lib.hid (HR2.out.below' hE)
    have hb05 := hb02.trans (hE.mono hb02.size)
    have hcR := Lib.hid (Blk.agg (cs := [.int .i64 (partT b p k), .int .i64 (partB b p k), .int .i64 (partD b p k)]) hK 0 [.int .i64 (partT b p k), .int .i64 (partB b p k), .int .i64 (partD b p k)] rfl)
    clear hE hK
    by_cases h0 : partD b p k = 0
    · have QZ := Lib.hid (show resCode b p k = 5 by rw [hcy, if_pos h0])
      have QP := Lib.hid (show resParts b p k = [.int .i64 0, .int .i64 0, .int .i64 0] by unfold resParts; rw [QZ.out]; rfl)
      have QB : (partD b p k == 0) = true := by simp [h0]
      go_wp2_with (refine wpList_store_agg rfl 103 _ _ rfl (w.heap.size + 2) 0 [.int .i64 0, .int .i64 0, .int .i64 0] rfl rfl 103 #[.int .i64 0, .int .i64 0, .int .i64 0] HR5.out ReserveParts.size (by simp) H1d.out ?_)
      intro w6 hR6 hg6 _
      have hR6' : Blk w6 (w.heap.size + 2) 103 #[.int .i64 0, .int .i64 0, .int .i64 0] := hR6
      have r0 : w6.cell? ⟨w.heap.size + 2, 0, none⟩ = some (.int .i64 0) := hR6'.cell 0
      have r1 : w6.cell? ⟨w.heap.size + 2, 1, none⟩ = some (.int .i64 0) := hR6'.cell 1
      have r2 : w6.cell? ⟨w.heap.size + 2, 2, none⟩ = some (.int .i64 0) := hR6'.cell 2
      go_wp2
      refine bodyPost_ret (v := .tuple #[.agg #[.int .i64 0, .int .i64 0, .int .i64 0], .int .i64 5]) (by simp [results, Try.results110, go_sem, r0, r1, r2]) rfl ⟨by rw [QP.out, QZ.out], hb05.grown hg6 hb05.size (fun k hk => by injection hk with hk; omega)⟩
    · have QZ := Lib.hid (show resCode b p k = 0 by rw [hcy, if_neg h0])
      have QP := Lib.hid (show resParts b p k = [.int .i64 (partT b p k), .int .i64 (partB b p k), .int .i64 (partD b p k)] by unfold resParts; rw [QZ.out]; rfl)
      have H1e : Hid (∀ v ∈ ([.int .i64 (partT b p k), .int .i64 (partB b p k), .int .i64 (partD b p k)] : List Value), v.oneCell' = true) := Lib.hid (by simp [Value.oneCell'])
      have QB : (partD b p k == 0) = false := by simp [h0]
      go_wp2_with (first | (refine wpList_load_agg rfl 103 _ rfl ⟨w2.heap.size, 0, none⟩ rfl [.int .i64 (partT b p k), .int .i64 (partB b p k), .int .i64 (partD b p k)] hcR.out _ Try.underlying103 rfl ReserveParts.size ?_) | (refine wpList_store_agg rfl 103 _ _ rfl (w.heap.size + 2) 0 [.int .i64 (partT b p k), .int .i64 (partB b p k), .int .i64 (partD b p k)] rfl rfl 103 #[.int .i64 0, .int .i64 0, .int .i64 0] HR5.out ReserveParts.size (by simp) H1e.out ?_))
      intro w6 hR6 hg6 _
      have hR6' : Blk w6 (w.heap.size + 2) 103 #[.int .i64 (partT b p k), .int .i64 (partB b p k), .int .i64 (partD b p k)] := hR6
      have r0 : w6.cell? ⟨w.heap.size + 2, 0, none⟩ = some (.int .i64 (partT b p k)) := hR6'.cell 0
      have r1 : w6.cell? ⟨w.heap.size + 2, 1, none⟩ = some (.int .i64 (partB b p k)) := hR6'.cell 1
      have r2 : w6.cell? ⟨w.heap.size + 2, 2, none⟩ = some (.int .i64 (partD b p k)) := hR6'.cell 2
      go_wp2
      refine bodyPost_ret (v := .tuple #[.agg #[.int .i64 (partT b p k), .int .i64 (partB b p k), .int .i64 (partD b p k)], .int .i64 0]) (by simp [results, Try.results110, go_sem, r0, r1, r2]) rfl ⟨by rw [QP.out, QZ.out], hb05.grown hg6 hb05.size (fun k hk => by injection hk with hk; omega)⟩

end Go.Proofs.Ythcnkcoplgdlkaa
