/- The reserves of holdings: the program's and the reference's contracts. -/
import Derived.Test.YthcnkcoplgdlkaaPort2
import Derived.Test.YthcnkcoplgdlkaaSum
namespace Go.Proofs.Ythcnkcoplgdlkaa
open Go.RowKit Go.BigFrame

set_option maxRecDepth 100000 in
set_option maxHeartbeats 6000000 in
theorem impl_Holding_parts_any (b : Bas) (A : Option Addr) (n cap : Nat) (h : Holding) (w : World) (hB : BasT w A n cap b) (Y : YearOk b h.pol h.year) :
    Calls Try.prog 120 #[.agg h.row.toArray, .agg #[.int .i64 b.first, .slice A n cap, .int .i64 b.rate]] w fun e w' => e = .returned (.agg #[.int .i64 (partT b h.pol h.year), .int .i64 (partB b h.pol h.year), .int .i64 (partD b h.pol h.year)]) ∧ Below w.heap.size w w' := by
  have hbw : Below w.heap.size w (((w.alloc (.cells #[.int .i64 h.kind, .int .i64 h.age, .int .i64 h.years, .int .i64 h.sum, .int .i64 h.load, .int .i64 h.year, .int .i64 h.count] 67)).alloc (.cells #[.int .i64 b.first, .slice A n cap, .int .i64 b.rate] 32)).alloc (.cells #[.int .i64 0, .int .i64 0, .int .i64 0] 103)) := (((Below.refl _ w).alloc (Nat.le_refl _) _).alloc (by simp) _).alloc (by simp <;> omega) _
  have HH := Lib.hid (((Blk.new w 67 #[.int .i64 h.kind, .int .i64 h.age, .int .i64 h.years, .int .i64 h.sum, .int .i64 h.load, .int .i64 h.year, .int .i64 h.count]).alloc (.cells #[.int .i64 b.first, .slice A n cap, .int .i64 b.rate] 32)).alloc (.cells #[.int .i64 0, .int .i64 0, .int .i64 0] 103))
  have HB := Lib.hid ((Blk.new (w.alloc (.cells #[.int .i64 h.kind, .int .i64 h.age, .int .i64 h.years, .int .i64 h.sum, .int .i64 h.load, .int .i64 h.year, .int .i64 h.count] 67)) 32 #[.int .i64 b.first, .slice A n cap, .int .i64 b.rate]).alloc (.cells #[.int .i64 0, .int .i64 0, .int .i64 0] 103))
  have HR := Lib.hid (Blk.new ((w.alloc (.cells #[.int .i64 h.kind, .int .i64 h.age, .int .i64 h.years, .int .i64 h.sum, .int .i64 h.load, .int .i64 h.year, .int .i64 h.count] 67)).alloc (.cells #[.int .i64 b.first, .slice A n cap, .int .i64 b.rate] 32)) 103 #[.int .i64 0, .int .i64 0, .int .i64 0])
  simp only [World.size_alloc] at HB HR
  have HBT := Lib.hid hB; clear hB
  have HY := Lib.hid Y; clear Y
  unfold Holding.row at *
  have HBW := Lib.hid (show ∀ w', Below (w.heap.size + 2) (((w.alloc (.cells #[.int .i64 h.kind, .int .i64 h.age, .int .i64 h.years, .int .i64 h.sum, .int .i64 h.load, .int .i64 h.year, .int .i64 h.count] 67)).alloc (.cells #[.int .i64 b.first, .slice A n cap, .int .i64 b.rate] 32)).alloc (.cells #[.int .i64 0, .int .i64 0, .int .i64 0] 103)) w' → Below w.heap.size w w' from fun w' q => hbw.trans (q.mono (by omega)))
  have HS := Lib.hid (show ∀ w', Below (w.heap.size + 2) (((w.alloc (.cells #[.int .i64 h.kind, .int .i64 h.age, .int .i64 h.years, .int .i64 h.sum, .int .i64 h.load, .int .i64 h.year, .int .i64 h.count] 67)).alloc (.cells #[.int .i64 b.first, .slice A n cap, .int .i64 b.rate] 32)).alloc (.cells #[.int .i64 0, .int .i64 0, .int .i64 0] 103)) w' → Below (w.heap.size + 2) (((w.alloc (.cells #[.int .i64 h.kind, .int .i64 h.age, .int .i64 h.years, .int .i64 h.sum, .int .i64 h.load, .int .i64 h.year, .int .i64 h.count] 67)).alloc (.cells #[.int .i64 b.first, .slice A n cap, .int .i64 b.rate] 32)).alloc (.cells #[.int .i64 0, .int .i64 0, .int .i64 0] 103)) w' ∧ w'.cell? ⟨w.heap.size, 0, none⟩ = some (.int .i64 h.kind) ∧ w'.cell? ⟨w.heap.size, 1, none⟩ = some (.int .i64 h.age) ∧ w'.cell? ⟨w.heap.size, 2, none⟩ = some (.int .i64 h.years) ∧ w'.cell? ⟨w.heap.size, 3, none⟩ = some (.int .i64 h.sum) ∧ w'.cell? ⟨w.heap.size, 4, none⟩ = some (.int .i64 h.load) ∧ w'.cell? ⟨w.heap.size, 5, none⟩ = some (.int .i64 h.year) ∧ w'.cell? ⟨w.heap.size, 6, none⟩ = some (.int .i64 h.count) ∧ w'.cell? ⟨w.heap.size + 1, 0, none⟩ = some (.int .i64 b.first) ∧ w'.cell? ⟨w.heap.size + 1, 1, none⟩ = some (.slice A n cap) ∧ w'.cell? ⟨w.heap.size + 1, 2, none⟩ = some (.int .i64 b.rate) from fun w' q => by
    have HH' := HH.out.below q (by omega)
    have HB' := HB.out.below q (by omega)
    exact ⟨q, (HH'.cell 0), (HH'.cell 1), (HH'.cell 2), (HH'.cell 3), (HH'.cell 4), (HH'.cell 5), (HH'.cell 6), (HB'.cell 0), (HB'.cell 1), (HB'.cell 2)⟩)
  go_enter Try.func120, Try.ntmps120
  go_wp2
  go_region_held3 (fun w' => Below (w.heap.size + 2) (((w.alloc (.cells #[.int .i64 h.kind, .int .i64 h.age, .int .i64 h.years, .int .i64 h.sum, .int .i64 h.load, .int .i64 h.year, .int .i64 h.count] 67)).alloc (.cells #[.int .i64 b.first, .slice A n cap, .int .i64 b.rate] 32)).alloc (.cells #[.int .i64 0, .int .i64 0, .int .i64 0] 103)) w' ∧ w'.cell? ⟨w.heap.size, 0, none⟩ = some (.int .i64 h.kind) ∧ w'.cell? ⟨w.heap.size, 1, none⟩ = some (.int .i64 h.age) ∧ w'.cell? ⟨w.heap.size, 2, none⟩ = some (.int .i64 h.years) ∧ w'.cell? ⟨w.heap.size, 3, none⟩ = some (.int .i64 h.sum) ∧ w'.cell? ⟨w.heap.size, 4, none⟩ = some (.int .i64 h.load) ∧ w'.cell? ⟨w.heap.size, 5, none⟩ = some (.int .i64 h.year) ∧ w'.cell? ⟨w.heap.size, 6, none⟩ = some (.int .i64 h.count) ∧ w'.cell? ⟨w.heap.size + 1, 0, none⟩ = some (.int .i64 b.first) ∧ w'.cell? ⟨w.heap.size + 1, 1, none⟩ = some (.slice A n cap) ∧ w'.cell? ⟨w.heap.size + 1, 2, none⟩ = some (.int .i64 b.rate)) (first | exact HS.out _ (Below.drew (Below.refl _ _)) | exact HS.out _ hc4 | exact HS.out _ hc3 | exact HS.out _ (Below.setCell (Below.setCell (Below.setCell hc4 (by show _ ≤ _; simp) _) (by show _ ≤ _; simp) _) (by show _ ≤ _; simp) _)) (first | (go_at_call 169; rename Below (w.heap.size + 2) _ _ ∧ _ => hH; have hHw := HBW.out _ hH.1; refine (impl_columnsOf_any b.first A n cap b.lives b.rate _ (HBT.out.past hHw).lives HY.out.tab ⟨HY.out.rate0, HY.out.rate1⟩).mono ?_; rintro e w3 ⟨g, rfl, hL, hb3⟩; have hc3 := Below.trans hH.1 (hb3.mono (by first | exact Nat.le_trans (by simp) hH.1.size | simp)); have HL3 := Lib.hid hL; clear hL; have HR3 := Lib.hid (HR.out.drew.below' hb3)) | (go_at_call 176; rename Below (w.heap.size + 2) _ _ ∧ _ => hH; have hHw := HBW.out _ hH.1; refine (impl_partsAt_any b A n cap h.pol (some ⟨g, 0, none⟩) _ h.year _ (HBT.out.past hHw) HY.out.toPolOk ⟨HY.out.k0, HY.out.k1⟩ HL3.out).mono ?_; rintro e w4 ⟨rfl, hb4⟩; have hc4 := Below.trans hH.1 (hb4.mono (by first | exact Nat.le_trans (by simp) hH.1.size | simp)); have HR4 := Lib.hid (HR3.out.below' hb4); have zc0 : w4.cell? ⟨w.heap.size + 1 + 1, 0, none⟩ = some (.int .i64 0) := (HR4.out).cell 0; have zc1 : w4.cell? ⟨w.heap.size + 1 + 1, 1, none⟩ = some (.int .i64 0) := (HR4.out).cell 1; have zc2 : w4.cell? ⟨w.heap.size + 1 + 1, 2, none⟩ = some (.int .i64 0) := (HR4.out).cell 2; have zf0 : w4.frozen? ⟨w.heap.size + 1 + 1, 0, none⟩ = false := (HR4.out).frozen 0; have zf1 : w4.frozen? ⟨w.heap.size + 1 + 1, 1, none⟩ = false := (HR4.out).frozen 1; have zf2 : w4.frozen? ⟨w.heap.size + 1 + 1, 2, none⟩ = false := (HR4.out).frozen 2))
  all_goals (rename Below (w.heap.size + 2) _ _ ∧ _ => hE; replace hE := HBW.out _ hE.1)
  · have hK : Blk (((w4.setCell ⟨w.heap.size + 1 + 1, 0, none⟩ (.int .i64 (partT b h.pol h.year))).setCell ⟨w.heap.size + 1 + 1, 1, none⟩ (.int .i64 (partB b h.pol h.year))).setCell ⟨w.heap.size + 1 + 1, 2, none⟩ (.int .i64 (partD b h.pol h.year))) (w.heap.size + 1 + 1) 103 #[.int .i64 (partT b h.pol h.year), .int .i64 (partB b h.pol h.year), .int .i64 (partD b h.pol h.year)] := by simpa using ((HR4.out.set_ 0 (.int .i64 (partT b h.pol h.year))).set_ 1 (.int .i64 (partB b h.pol h.year))).set_ 2 (.int .i64 (partD b h.pol h.year))
    have HW := Lib.hid (And.intro hE hK); clear hK hE
    generalize (((w4.setCell ⟨w.heap.size + 1 + 1, 0, none⟩ (.int .i64 (partT b h.pol h.year))).setCell ⟨w.heap.size + 1 + 1, 1, none⟩ (.int .i64 (partB b h.pol h.year))).setCell ⟨w.heap.size + 1 + 1, 2, none⟩ (.int .i64 (partD b h.pol h.year))) = W5 at HW ⊢
    obtain ⟨hE, hK⟩ := HW.out
    have r0 : W5.cell? ⟨w.heap.size + 1 + 1, 0, none⟩ = some (.int .i64 (partT b h.pol h.year)) := hK.cell 0
    have r1 : W5.cell? ⟨w.heap.size + 1 + 1, 1, none⟩ = some (.int .i64 (partB b h.pol h.year)) := hK.cell 1
    have r2 : W5.cell? ⟨w.heap.size + 1 + 1, 2, none⟩ = some (.int .i64 (partD b h.pol h.year)) := hK.cell 2
    have HE := Lib.hid hE
    clear hK hE
    go_wp2
    refine bodyPost_ret (v := .agg #[.int .i64 (partT b h.pol h.year), .int .i64 (partB b h.pol h.year), .int .i64 (partD b h.pol h.year)]) (by simp [results, Try.results120, go_sem, r0, r1, r2]) rfl ⟨rfl, HE.out⟩

def resV (b : Bas) (h : Holding) : Int := h.count * resAt b h.pol h.year
theorem hold_pol {b : Bas} {h : Holding} (H : holdB b h = true) : polB b h.pol = true := by
  simp only [holdB, Bool.and_eq_true, beq_iff_eq] at H
  have h2 := H.2
  unfold resCode at h2
  cases hp : polB b h.pol
  · rw [hp] at h2; simp at h2
  · rfl
theorem resV_bound {b : Bas} {h : Holding} (H : holdB b h = true) : 0 ≤ resV b h ∧ resV b h ≤ 100000001000000 := by
  obtain ⟨⟨c0, c1⟩, Y⟩ := hold_ok H
  obtain ⟨r0, r1⟩ := res_bound Y
  unfold resV
  refine ⟨Int.mul_nonneg c0 r0, ?_⟩
  have h1 : h.count * resAt b h.pol h.year ≤ 1000000 * resAt b h.pol h.year := Int.mul_le_mul_of_nonneg_right c1 r0
  omega

end Go.Proofs.Ythcnkcoplgdlkaa
