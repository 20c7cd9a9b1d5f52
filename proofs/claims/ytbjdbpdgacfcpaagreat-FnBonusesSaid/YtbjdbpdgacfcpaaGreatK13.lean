/- Parts of a proof, one after another: Sum, Port3, Port4. No condition. -/
import Derived.Test.YtbjdbpdgacfcpaaGreatK1
import Derived.Test.YtbjdbpdgacfcpaaGreatK3
import Derived.Test.YtbjdbpdgacfcpaaGreatK12
/- The sum of a list of numbers: the program's and the reference's contracts. -/
section
namespace Go.Proofs.YtbjdbpdgacfcpaaGreat
open Go.RowKit Go.BigFrame

/-- no sum of a list's first elements is too great for int64 -/
def Sums (xs : List Int) : Prop := ∀ k : Nat, -4000000000000000000 ≤ (xs.take k).sum ∧ (xs.take k).sum ≤ 4000000000000000000
theorem sum_snoc {xs : List Int} {k : Nat} {x : Int} (hx : xs[k]? = some x) : (xs.take (k + 1)).sum = (xs.take k).sum + x := by
  rw [take_succ_snoc hx]; simp
theorem sum_bound {lo hi : Int} (h0 : lo ≤ 0) (h1 : 0 ≤ hi) : ∀ (xs : List Int), (∀ x ∈ xs, lo ≤ x ∧ x ≤ hi) → lo * (xs.length : Int) ≤ xs.sum ∧ xs.sum ≤ hi * (xs.length : Int)
  | [], _ => by simp
  | x :: r, h => by
    have hx := h x (by simp)
    have := sum_bound h0 h1 r fun y hy => h y (by simp [hy])
    simp only [List.sum_cons, List.length_cons, Int.natCast_add, Int.mul_add]
    omega
theorem sums_of {xs : List Int} {hi : Int} {n : Nat} (h1 : 0 ≤ hi) (hl : xs.length ≤ n) (h : ∀ x ∈ xs, 0 ≤ x ∧ x ≤ hi) (hb : hi * (n : Int) ≤ 4000000000000000000) : Sums xs ∧ 0 ≤ xs.sum ∧ xs.sum ≤ hi * (n : Int) := by
  have key : ∀ ys : List Int, ys.length ≤ n → (∀ x ∈ ys, 0 ≤ x ∧ x ≤ hi) → 0 ≤ ys.sum ∧ ys.sum ≤ hi * (n : Int) := fun ys h2 h3 => by
    have := sum_bound (lo := 0) (by omega) h1 ys h3
    have h4 : hi * (ys.length : Int) ≤ hi * (n : Int) := Int.mul_le_mul_of_nonneg_left (by omega) h1
    rw [Int.zero_mul] at this
    omega
  refine ⟨fun k => ?_, key xs hl h⟩
  have := key (xs.take k) (by simp; omega) fun x hx => h x (List.mem_of_mem_take hx)
  omega

set_option maxHeartbeats 1000000 in
theorem impl_total_any (A : Option Addr) (n cap : Nat) (xs : List Int) (w : World) (hl : xs.length = n) (hn : n ≤ 1048576) (hX : Rd w w.heap.size A 1 (intRows xs)) (hs : Sums xs) :
    Calls Tryz.prog 97 #[.slice A n cap] w fun e w' => e = .returned (.int .i64 xs.sum) ∧ w = w' := by
  have HX := Lib.hid hX; clear hX
  have HL := Lib.hid hl; clear hl
  have HS := Lib.hid hs; clear hs
  go_enter Tryz.func97, Tryz.ntmps97
  go_wp2
  go_loop [3, 8] (fun s i => ∃ k : Nat, k ≤ n ∧ i = .int .i64 k ∧ s = .int .i64 (xs.take k).sum) (fun _ i => n - (intOf i).toNat)
  case atStart => exact ⟨0, by omega, rfl, rfl⟩
  case round =>
    obtain ⟨k, hk, rfl, rfl⟩ := hrel
    by_cases hlt : k < n
    · obtain ⟨x, hx⟩ := get_of_lt (xs := xs) (k := k) (by rw [HL.out]; exact hlt)
      obtain ⟨ad, rfl, had, hc⟩ := HX.out.int_at hx
      have HE := Lib.hid (sum_snoc hx)
      have hb := HS.out (k + 1)
      rw [HE.out] at hb
      obtain ⟨b1, b2⟩ := hb
      clear hx
      go_wp2
      go_round
      case rel => exact ⟨k + 1, by omega, by go_num, by rw [HE.out]⟩
      case measure => simp [intOf]; omega
    · have hkn : k = n := by omega
      subst hkn
      go_wp2
      go_ret
      exact ⟨by rw [take_all HL.out]; rfl, rfl⟩

set_option maxHeartbeats 1000000 in
theorem spec_l01Sum_any (A : Option Addr) (n cap : Nat) (xs : List Int) (w : World) (hl : xs.length = n) (hn : n ≤ 1048576) (hX : Rd w w.heap.size A 1 (intRows xs)) (hs : Sums xs) :
    Calls Tryz.prog 119 #[.slice A n cap] w fun e w' => e = .returned (.int .i64 xs.sum) ∧ w = w' := by
  have HX := Lib.hid hX; clear hX
  have HL := Lib.hid hl; clear hl
  have HS := Lib.hid hs; clear hs
  go_enter Tryz.func119, Tryz.ntmps119
  go_wp2
  go_loop [3, 4] (fun s i => ∃ k : Nat, k ≤ n ∧ i = .int .i64 k ∧ s = .int .i64 (xs.take k).sum) (fun _ i => n - (intOf i).toNat)
  case atStart => exact ⟨0, by omega, rfl, rfl⟩
  case round =>
    obtain ⟨k, hk, rfl, rfl⟩ := hrel
    by_cases hlt : k < n
    · obtain ⟨x, hx⟩ := get_of_lt (xs := xs) (k := k) (by rw [HL.out]; exact hlt)
      obtain ⟨ad, rfl, had, hc⟩ := HX.out.int_at hx
      have HE := Lib.hid (sum_snoc hx)
      have hb := HS.out (k + 1)
      rw [HE.out] at hb
      obtain ⟨b1, b2⟩ := hb
      clear hx
      go_wp2
      go_round
      case rel => exact ⟨k + 1, by omega, by go_num, by rw [HE.out]⟩
      case measure => simp [intOf]; omega
    · have hkn : k = n := by omega
      subst hkn
      go_wp2
      go_ret
      exact ⟨by rw [take_all HL.out]; rfl, rfl⟩
end Go.Proofs.YtbjdbpdgacfcpaaGreat
end

/- The reserves of holdings: the program's and the reference's contracts. -/
section
namespace Go.Proofs.YtbjdbpdgacfcpaaGreat
open Go.RowKit Go.BigFrame

set_option maxRecDepth 100000 in
set_option maxHeartbeats 6000000 in
theorem impl_Holding_parts_at (b : Bas) (A : Option Addr) (n cap : Nat) (h : Holding) (w : World) (hB : BasT w A n cap b) (Y : PolOk b h.pol) (hk : 0 ≤ h.year ∧ h.year ≤ durP b h.pol - 1) :
    Calls Tryz.prog 75 #[.agg h.row.toArray, .agg #[.int .i64 b.first, .slice A n cap, .int .i64 b.rate]] w fun e w' => e = .returned (.agg #[.int .i64 (partT b h.pol h.year), .int .i64 (partB b h.pol h.year), .int .i64 (partD b h.pol h.year)]) ∧ Below w.heap.size w w' := by
  have hbw : Below w.heap.size w (((w.alloc (.cells #[.int .i64 h.kind, .int .i64 h.age, .int .i64 h.years, .int .i64 h.sum, .int .i64 h.load, .int .i64 h.year, .int .i64 h.count] 90)).alloc (.cells #[.int .i64 b.first, .slice A n cap, .int .i64 b.rate] 28)).alloc (.cells #[.int .i64 0, .int .i64 0, .int .i64 0] 99)) := (((Below.refl _ w).alloc (Nat.le_refl _) _).alloc (by simp) _).alloc (by simp <;> omega) _
  have HH := Lib.hid (((Blk.new w 90 #[.int .i64 h.kind, .int .i64 h.age, .int .i64 h.years, .int .i64 h.sum, .int .i64 h.load, .int .i64 h.year, .int .i64 h.count]).alloc (.cells #[.int .i64 b.first, .slice A n cap, .int .i64 b.rate] 28)).alloc (.cells #[.int .i64 0, .int .i64 0, .int .i64 0] 99))
  have HB := Lib.hid ((Blk.new (w.alloc (.cells #[.int .i64 h.kind, .int .i64 h.age, .int .i64 h.years, .int .i64 h.sum, .int .i64 h.load, .int .i64 h.year, .int .i64 h.count] 90)) 28 #[.int .i64 b.first, .slice A n cap, .int .i64 b.rate]).alloc (.cells #[.int .i64 0, .int .i64 0, .int .i64 0] 99))
  have HR := Lib.hid (Blk.new ((w.alloc (.cells #[.int .i64 h.kind, .int .i64 h.age, .int .i64 h.years, .int .i64 h.sum, .int .i64 h.load, .int .i64 h.year, .int .i64 h.count] 90)).alloc (.cells #[.int .i64 b.first, .slice A n cap, .int .i64 b.rate] 28)) 99 #[.int .i64 0, .int .i64 0, .int .i64 0])
  simp only [World.size_alloc] at HB HR
  have HBT := Lib.hid hB; clear hB
  have HY := Lib.hid Y; clear Y; have HYK := Lib.hid hk; clear hk
  unfold Holding.row at *
  have HBW := Lib.hid (show ∀ w', Below (w.heap.size + 2) (((w.alloc (.cells #[.int .i64 h.kind, .int .i64 h.age, .int .i64 h.years, .int .i64 h.sum, .int .i64 h.load, .int .i64 h.year, .int .i64 h.count] 90)).alloc (.cells #[.int .i64 b.first, .slice A n cap, .int .i64 b.rate] 28)).alloc (.cells #[.int .i64 0, .int .i64 0, .int .i64 0] 99)) w' → Below w.heap.size w w' from fun w' q => hbw.trans (q.mono (by omega)))
  have HS := Lib.hid (show ∀ w', Below (w.heap.size + 2) (((w.alloc (.cells #[.int .i64 h.kind, .int .i64 h.age, .int .i64 h.years, .int .i64 h.sum, .int .i64 h.load, .int .i64 h.year, .int .i64 h.count] 90)).alloc (.cells #[.int .i64 b.first, .slice A n cap, .int .i64 b.rate] 28)).alloc (.cells #[.int .i64 0, .int .i64 0, .int .i64 0] 99)) w' → Below (w.heap.size + 2) (((w.alloc (.cells #[.int .i64 h.kind, .int .i64 h.age, .int .i64 h.years, .int .i64 h.sum, .int .i64 h.load, .int .i64 h.year, .int .i64 h.count] 90)).alloc (.cells #[.int .i64 b.first, .slice A n cap, .int .i64 b.rate] 28)).alloc (.cells #[.int .i64 0, .int .i64 0, .int .i64 0] 99)) w' ∧ w'.cell? ⟨w.heap.size, 0, none⟩ = some (.int .i64 h.kind) ∧ w'.cell? ⟨w.heap.size, 1, none⟩ = some (.int .i64 h.age) ∧ w'.cell? ⟨w.heap.size, 2, none⟩ = some (.int .i64 h.years) ∧ w'.cell? ⟨w.heap.size, 3, none⟩ = some (.int .i64 h.sum) ∧ w'.cell? ⟨w.heap.size, 4, none⟩ = some (.int .i64 h.load) ∧ w'.cell? ⟨w.heap.size, 5, none⟩ = some (.int .i64 h.year) ∧ w'.cell? ⟨w.heap.size, 6, none⟩ = some (.int .i64 h.count) ∧ w'.cell? ⟨w.heap.size + 1, 0, none⟩ = some (.int .i64 b.first) ∧ w'.cell? ⟨w.heap.size + 1, 1, none⟩ = some (.slice A n cap) ∧ w'.cell? ⟨w.heap.size + 1, 2, none⟩ = some (.int .i64 b.rate) from fun w' q => by
    have HH' := HH.out.below q (by omega)
    have HB' := HB.out.below q (by omega)
    exact ⟨q, (HH'.cell 0), (HH'.cell 1), (HH'.cell 2), (HH'.cell 3), (HH'.cell 4), (HH'.cell 5), (HH'.cell 6), (HB'.cell 0), (HB'.cell 1), (HB'.cell 2)⟩)
  go_enter Tryz.func75, Tryz.ntmps75
  go_wp2
  go_region_held3 (fun w' => Below (w.heap.size + 2) (((w.alloc (.cells #[.int .i64 h.kind, .int .i64 h.age, .int .i64 h.years, .int .i64 h.sum, .int .i64 h.load, .int .i64 h.year, .int .i64 h.count] 90)).alloc (.cells #[.int .i64 b.first, .slice A n cap, .int .i64 b.rate] 28)).alloc (.cells #[.int .i64 0, .int .i64 0, .int .i64 0] 99)) w' ∧ w'.cell? ⟨w.heap.size, 0, none⟩ = some (.int .i64 h.kind) ∧ w'.cell? ⟨w.heap.size, 1, none⟩ = some (.int .i64 h.age) ∧ w'.cell? ⟨w.heap.size, 2, none⟩ = some (.int .i64 h.years) ∧ w'.cell? ⟨w.heap.size, 3, none⟩ = some (.int .i64 h.sum) ∧ w'.cell? ⟨w.heap.size, 4, none⟩ = some (.int .i64 h.load) ∧ w'.cell? ⟨w.heap.size, 5, none⟩ = some (.int .i64 h.year) ∧ w'.cell? ⟨w.heap.size, 6, none⟩ = some (.int .i64 h.count) ∧ w'.cell? ⟨w.heap.size + 1, 0, none⟩ = some (.int .i64 b.first) ∧ w'.cell? ⟨w.heap.size + 1, 1, none⟩ = some (.slice A n cap) ∧ w'.cell? ⟨w.heap.size + 1, 2, none⟩ = some (.int .i64 b.rate)) (first | exact HS.out _ (Below.drew (Below.refl _ _)) | exact HS.out _ hc4 | exact HS.out _ hc3 | exact HS.out _ (Below.setCell (Below.setCell (Below.setCell hc4 (by show _ ≤ _; simp) _) (by show _ ≤ _; simp) _) (by show _ ≤ _; simp) _)) (first | (go_at_call 139; rename Below (w.heap.size + 2) _ _ ∧ _ => hH; have hHw := HBW.out _ hH.1; refine (impl_columnsOf_any b.first A n cap b.lives b.rate _ (HBT.out.past hHw).lives HY.out.tab ⟨HY.out.rate0, HY.out.rate1⟩).mono ?_; rintro e w3 ⟨g, rfl, hL, hb3⟩; have hc3 := Below.trans hH.1 (hb3.mono (by first | exact Nat.le_trans (by simp) hH.1.size | simp)); have HL3 := Lib.hid hL; clear hL; have HR3 := Lib.hid (HR.out.drew.below' hb3)) | (go_at_call 138; rename Below (w.heap.size + 2) _ _ ∧ _ => hH; have hHw := HBW.out _ hH.1; refine (impl_partsAt_any b A n cap h.pol (some ⟨g, 0, none⟩) _ h.year _ (HBT.out.past hHw) HY.out HYK.out HL3.out).mono ?_; rintro e w4 ⟨rfl, hb4⟩; have hc4 := Below.trans hH.1 (hb4.mono (by first | exact Nat.le_trans (by simp) hH.1.size | simp)); have HR4 := Lib.hid (HR3.out.below' hb4); have zc0 : w4.cell? ⟨w.heap.size + 1 + 1, 0, none⟩ = some (.int .i64 0) := (HR4.out).cell 0; have zc1 : w4.cell? ⟨w.heap.size + 1 + 1, 1, none⟩ = some (.int .i64 0) := (HR4.out).cell 1; have zc2 : w4.cell? ⟨w.heap.size + 1 + 1, 2, none⟩ = some (.int .i64 0) := (HR4.out).cell 2; have zf0 : w4.frozen? ⟨w.heap.size + 1 + 1, 0, none⟩ = false := (HR4.out).frozen 0; have zf1 : w4.frozen? ⟨w.heap.size + 1 + 1, 1, none⟩ = false := (HR4.out).frozen 1; have zf2 : w4.frozen? ⟨w.heap.size + 1 + 1, 2, none⟩ = false := (HR4.out).frozen 2))
  all_goals (rename Below (w.heap.size + 2) _ _ ∧ _ => hE; replace hE := HBW.out _ hE.1)
  · have hK : Blk (((w4.setCell ⟨w.heap.size + 1 + 1, 0, none⟩ (.int .i64 (partT b h.pol h.year))).setCell ⟨w.heap.size + 1 + 1, 1, none⟩ (.int .i64 (partB b h.pol h.year))).setCell ⟨w.heap.size + 1 + 1, 2, none⟩ (.int .i64 (partD b h.pol h.year))) (w.heap.size + 1 + 1) 99 #[.int .i64 (partT b h.pol h.year), .int .i64 (partB b h.pol h.year), .int .i64 (partD b h.pol h.year)] := by simpa using ((HR4.out.set_ 0 (.int .i64 (partT b h.pol h.year))).set_ 1 (.int .i64 (partB b h.pol h.year))).set_ 2 (.int .i64 (partD b h.pol h.year))
    have HW := Lib.hid (And.intro hE hK); clear hK hE
    generalize (((w4.setCell ⟨w.heap.size + 1 + 1, 0, none⟩ (.int .i64 (partT b h.pol h.year))).setCell ⟨w.heap.size + 1 + 1, 1, none⟩ (.int .i64 (partB b h.pol h.year))).setCell ⟨w.heap.size + 1 + 1, 2, none⟩ (.int .i64 (partD b h.pol h.year))) = W5 at HW ⊢
    obtain ⟨hE, hK⟩ := HW.out
    have r0 : W5.cell? ⟨w.heap.size + 1 + 1, 0, none⟩ = some (.int .i64 (partT b h.pol h.year)) := hK.cell 0
    have r1 : W5.cell? ⟨w.heap.size + 1 + 1, 1, none⟩ = some (.int .i64 (partB b h.pol h.year)) := hK.cell 1
    have r2 : W5.cell? ⟨w.heap.size + 1 + 1, 2, none⟩ = some (.int .i64 (partD b h.pol h.year)) := hK.cell 2
    have HE := Lib.hid hE
    clear hK hE
    go_wp2
    refine bodyPost_ret (v := .agg #[.int .i64 (partT b h.pol h.year), .int .i64 (partB b h.pol h.year), .int .i64 (partD b h.pol h.year)]) (by simp [results, Tryz.results75, go_sem, r0, r1, r2]) rfl ⟨rfl, HE.out⟩
theorem impl_Holding_parts_any (b : Bas) (A : Option Addr) (n cap : Nat) (h : Holding) (w : World) (hB : BasT w A n cap b) (Y : YearOk b h.pol h.year) :
    Calls Tryz.prog 75 #[.agg h.row.toArray, .agg #[.int .i64 b.first, .slice A n cap, .int .i64 b.rate]] w fun e w' => e = .returned (.agg #[.int .i64 (partT b h.pol h.year), .int .i64 (partB b h.pol h.year), .int .i64 (partD b h.pol h.year)]) ∧ Below w.heap.size w w' :=
  impl_Holding_parts_at b A n cap h w hB Y.toPolOk ⟨Y.k0, Y.k1⟩

def resV (b : Bas) (h : Holding) : Int := h.count * resAt b h.pol h.year
theorem hold_pol {b : Bas} {h : Holding} (H : holdB b h = true) : polB b h.pol = true := by
  simp only [holdB, Bool.and_eq_true, beq_iff_eq] at H
  have h2 := H.2
  unfold resCode at h2
  cases hp : polB b h.pol
  · rw [hp] at h2; simp at h2
  · rfl
theorem resV_bound {b : Bas} {h : Holding} (H : holdB b h = true) : 0 ≤ resV b h ∧ resV b h ≤ 100000001000000 := by
  obtain ⟨⟨c0, c1⟩, Y⟩ := hold_ok H
  obtain ⟨r0, r1⟩ := res_bound Y
  unfold resV
  refine ⟨Int.mul_nonneg c0 r0, ?_⟩
  have h1 : h.count * resAt b h.pol h.year ≤ 1000000 * resAt b h.pol h.year := Int.mul_le_mul_of_nonneg_right c1 r0
  omega

set_option maxHeartbeats 4000000 in
theorem impl_Holding_reserve_any (b : Bas) (A : Option Addr) (n cap : Nat) (h : Holding) (w : World) (hB : BasT w A n cap b) (H : holdB b h = true) :
    Calls Tryz.prog 107 #[.agg h.row.toArray, .agg #[.int .i64 b.first, .slice A n cap, .int .i64 b.rate]] w fun e w' => e = .returned (.int .i64 (resV b h)) ∧ Below w.heap.size w w' := by
  have hbw : Below w.heap.size w ((w.alloc (.cells #[.int .i64 h.kind, .int .i64 h.age, .int .i64 h.years, .int .i64 h.sum, .int .i64 h.load, .int .i64 h.year, .int .i64 h.count] 90)).alloc (.cells #[.int .i64 b.first, .slice A n cap, .int .i64 b.rate] 28)) := ((Below.refl _ w).alloc (Nat.le_refl _) _).alloc (by simp) _
  have HH := Lib.hid ((Blk.new w 90 #[.int .i64 h.kind, .int .i64 h.age, .int .i64 h.years, .int .i64 h.sum, .int .i64 h.load, .int .i64 h.year, .int .i64 h.count]).alloc (.cells #[.int .i64 b.first, .slice A n cap, .int .i64 b.rate] 28))
  have HB := Lib.hid (Blk.new (w.alloc (.cells #[.int .i64 h.kind, .int .i64 h.age, .int .i64 h.years, .int .i64 h.sum, .int .i64 h.load, .int .i64 h.year, .int .i64 h.count] 90)) 28 #[.int .i64 b.first, .slice A n cap, .int .i64 b.rate])
  simp only [World.size_alloc] at HB
  have HBT := Lib.hid (hB.past hbw); clear hB
  obtain ⟨⟨q0, q1⟩, Y⟩ := hold_ok H
  have HP := Lib.hid (hold_pol H)
  obtain ⟨z0, z1⟩ := resV_bound H
  unfold resV resAt at *
  have HPK := Lib.hid (part_ok Y (net_bound Y.toPolOk))
  have HY := Lib.hid Y; clear Y H
  unfold Holding.row at *
  obtain ⟨R, hR⟩ : ∃ R, roundP (fwdP h.pol.sum (partT b h.pol h.year) (netP b h.pol) (partB b h.pol h.year) (partD b h.pol h.year)) = R := ⟨_, rfl⟩
  rw [hR] at z0 z1 ⊢
  have HR := Lib.hid hR; clear hR
  have hcB := Lib.hid (Blk.agg_past (cs := [.int .i64 b.first, .slice A n cap, .int .i64 b.rate]) HB.out 0 [.int .i64 b.first, .slice A n cap, .int .i64 b.rate] rfl)
  have hcH := Lib.hid (Blk.agg_past (cs := [.int .i64 h.kind, .int .i64 h.age, .int .i64 h.years, .int .i64 h.sum, .int .i64 h.load, .int .i64 h.year, .int .i64 h.count]) HH.out 0 [.int .i64 h.kind, .int .i64 h.age, .int .i64 h.years, .int .i64 h.sum, .int .i64 h.load, .int .i64 h.year, .int .i64 h.count] rfl)
  have hcP := Lib.hid (Blk.agg_past (cs := [.int .i64 h.kind, .int .i64 h.age, .int .i64 h.years, .int .i64 h.sum, .int .i64 h.load, .int .i64 h.year, .int .i64 h.count]) HH.out 0 [.int .i64 h.kind, .int .i64 h.age, .int .i64 h.years, .int .i64 h.sum, .int .i64 h.load] rfl)
  have d3 := fun y : Past ((w.alloc (.cells #[.int .i64 h.kind, .int .i64 h.age, .int .i64 h.years, .int .i64 h.sum, .int .i64 h.load, .int .i64 h.year, .int .i64 h.count] 90)).alloc (.cells #[.int .i64 b.first, .slice A n cap, .int .i64 b.rate] 28)) => Past.cell (p := ⟨w.heap.size, 3, none⟩) (v := .int .i64 h.sum) (HH.out.cell 3) y
  have d6 := fun y : Past ((w.alloc (.cells #[.int .i64 h.kind, .int .i64 h.age, .int .i64 h.years, .int .i64 h.sum, .int .i64 h.load, .int .i64 h.year, .int .i64 h.count] 90)).alloc (.cells #[.int .i64 b.first, .slice A n cap, .int .i64 b.rate] 28)) => Past.cell (p := ⟨w.heap.size, 6, none⟩) (v := .int .i64 h.count) (HH.out.cell 6) y
  go_enter Tryz.func107, Tryz.ntmps107
  go_wp2
  refine wp_region_past (by kernel_rfl) (by kernel_rfl) ?_
  repeat (first | (go_big_quiet_want; (first | (first | (refine quiet_load_agg 28 _ rfl ⟨w.heap.size + 1, 0, none⟩ rfl [.int .i64 b.first, .slice A n cap, .int .i64 b.rate] hcB.out _ Tryz.underlying28 rfl Bas.size ?_) | (refine quiet_load_agg 90 _ rfl ⟨w.heap.size, 0, none⟩ rfl [.int .i64 h.kind, .int .i64 h.age, .int .i64 h.years, .int .i64 h.sum, .int .i64 h.load, .int .i64 h.year, .int .i64 h.count] hcH.out _ Tryz.underlying90 rfl Holding.size ?_) | (refine quiet_load_agg 88 _ rfl ⟨w.heap.size, 0, none⟩ rfl [.int .i64 h.kind, .int .i64 h.age, .int .i64 h.years, .int .i64 h.sum, .int .i64 h.load] hcP.out _ Tryz.underlying88 rfl Policy.size ?_))); go_simp; go_big_quiet_on) | go_big_quiet_step ((first | (go_at_call 75; exact past_call (impl_Holding_parts_any b A n cap h _ (HBT.out.at_past _) HY.out)) | (go_at_call 77; exact past_call (impl_netPremium_any b A n cap h.pol _ (HBT.out.at_past _) HP.out)) | (go_at_call 76; exact past_call ((impl_reserveParts_rounded_any _ _ _ _ _ _ HPK.out).mono (by rw [HR.out]; exact fun _ _ h => h))))))
  refine wpQuiet_nil ?_
  rintro _ ⟨y, rfl⟩
  go_wp2
  go_ret
  exact ⟨rfl, hbw.trans (y.2.mono hbw.size)⟩

end Go.Proofs.YtbjdbpdgacfcpaaGreat
end

/- The reserve of a portfolio: the program's and the reference's contracts. -/
section
namespace Go.Proofs.YtbjdbpdgacfcpaaGreat
open Go.RowKit Go.BigFrame

def resL (b : Bas) (xs : List Holding) : List Int := xs.map (resV b)
theorem resL_get {b : Bas} {xs : List Holding} {k : Nat} {x : Holding} (h : xs[k]? = some x) : (resL b xs)[k]? = some (resV b x) := by simp [resL, h]
theorem resL_sums {b : Bas} {xs : List Holding} (hl : xs.length ≤ 30) (hh : ∀ x ∈ xs, holdB b x = true) : Sums (resL b xs) :=
  (sums_of (n := 30) (hi := 100000001000000) (by omega) (by simpa [resL] using hl) (fun v hv => by
    obtain ⟨x, hx, rfl⟩ := List.mem_map.1 hv
    exact resV_bound (hh x hx)) (by omega)).1
theorem port_hold {b : Bas} {xs : List Holding} (H : portB b xs = true) : xs.length ≤ 30 ∧ ∀ x ∈ xs, holdB b x = true := by
  simp only [portB, Bool.and_eq_true, decide_eq_true_eq, List.all_eq_true] at H
  exact ⟨H.2.1, H.2.2⟩
def totP (b : Bas) (xs : List Holding) : Int × Int := if portB b xs = true then ((resL b xs).sum, 0) else (0, 1)

set_option maxHeartbeats 4000000 in
theorem spec_l17Reserve_any (b : Bas) (A : Option Addr) (n cap : Nat) (h : Holding) (w : World) (hB : BasT w A n cap b) (H : holdB b h = true) :
    Calls Tryz.prog 106 #[.agg #[.int .i64 b.first, .slice A n cap, .int .i64 b.rate], .agg h.row.toArray] w fun e w' => e = .returned (.int .i64 (resV b h)) ∧ Below w.heap.size w w' := by
  have hbw : Below w.heap.size w ((w.alloc (.cells #[.int .i64 b.first, .slice A n cap, .int .i64 b.rate] 28)).alloc (.cells #[.int .i64 h.kind, .int .i64 h.age, .int .i64 h.years, .int .i64 h.sum, .int .i64 h.load, .int .i64 h.year, .int .i64 h.count] 90)) := ((Below.refl _ w).alloc (Nat.le_refl _) _).alloc (by simp) _
  have HB := Lib.hid ((Blk.new w 28 #[.int .i64 b.first, .slice A n cap, .int .i64 b.rate]).alloc (.cells #[.int .i64 h.kind, .int .i64 h.age, .int .i64 h.years, .int .i64 h.sum, .int .i64 h.load, .int .i64 h.year, .int .i64 h.count] 90))
  have HH := Lib.hid (Blk.new (w.alloc (.cells #[.int .i64 b.first, .slice A n cap, .int .i64 b.rate] 28)) 90 #[.int .i64 h.kind, .int .i64 h.age, .int .i64 h.years, .int .i64 h.sum, .int .i64 h.load, .int .i64 h.year, .int .i64 h.count])
  simp only [World.size_alloc] at HH
  have HBT := Lib.hid (hB.past hbw); clear hB
  obtain ⟨⟨q0, q1⟩, Y⟩ := hold_ok H
  obtain ⟨z0, z1⟩ := resV_bound H
  have HY := Lib.hid Y; clear Y H
  unfold resV at *
  unfold Holding.row at *
  have hcB := Lib.hid (Blk.agg_past (cs := [.int .i64 b.first, .slice A n cap, .int .i64 b.rate]) HB.out 0 [.int .i64 b.first, .slice A n cap, .int .i64 b.rate] rfl)
  have hcP := Lib.hid (Blk.agg_past (cs := [.int .i64 h.kind, .int .i64 h.age, .int .i64 h.years, .int .i64 h.sum, .int .i64 h.load, .int .i64 h.year, .int .i64 h.count]) HH.out 0 [.int .i64 h.kind, .int .i64 h.age, .int .i64 h.years, .int .i64 h.sum, .int .i64 h.load] rfl)
  have d5 := fun y : Past ((w.alloc (.cells #[.int .i64 b.first, .slice A n cap, .int .i64 b.rate] 28)).alloc (.cells #[.int .i64 h.kind, .int .i64 h.age, .int .i64 h.years, .int .i64 h.sum, .int .i64 h.load, .int .i64 h.year, .int .i64 h.count] 90)) => Past.cell (p := ⟨w.heap.size + 1, 5, none⟩) (v := .int .i64 h.year) (HH.out.cell 5) y
  have d6 := fun y : Past ((w.alloc (.cells #[.int .i64 b.first, .slice A n cap, .int .i64 b.rate] 28)).alloc (.cells #[.int .i64 h.kind, .int .i64 h.age, .int .i64 h.years, .int .i64 h.sum, .int .i64 h.load, .int .i64 h.year, .int .i64 h.count] 90)) => Past.cell (p := ⟨w.heap.size + 1, 6, none⟩) (v := .int .i64 h.count) (HH.out.cell 6) y
  go_enter Tryz.func106, Tryz.ntmps106
  go_wp2
  refine wp_region_past (by kernel_rfl) (by kernel_rfl) ?_
  repeat (first | (go_big_quiet_want; (first | (first | (refine quiet_load_agg 28 _ rfl ⟨w.heap.size, 0, none⟩ rfl [.int .i64 b.first, .slice A n cap, .int .i64 b.rate] hcB.out _ Tryz.underlying28 rfl Bas.size ?_) | (refine quiet_load_agg 88 _ rfl ⟨w.heap.size + 1, 0, none⟩ rfl [.int .i64 h.kind, .int .i64 h.age, .int .i64 h.years, .int .i64 h.sum, .int .i64 h.load] hcP.out _ Tryz.underlying88 rfl Policy.size ?_))); go_simp; go_big_quiet_on) | go_big_quiet_step ((go_at_call 150; exact past_call (spec_l11At_any b A n cap h.pol h.year _ (HBT.out.at_past _) HY.out))))
  refine wpQuiet_nil ?_
  rintro _ ⟨y, rfl⟩
  go_wp2
  go_ret
  exact ⟨rfl, hbw.trans (y.2.mono hbw.size)⟩

set_option maxHeartbeats 4000000 in
theorem spec_TotalReserve_any (b : Bas) (A : Option Addr) (n cap : Nat) (H : Option Addr) (m hcap : Nat) (xs : List Holding) (w : World) (hB : BasT w A n cap b) (hl : xs.length = m) (hm : m ≤ 1048576) (hX : Rd w w.heap.size H 7 (holdingRows xs)) (hf : ∀ x ∈ xs, x.fits) :
    Calls Tryz.prog 37 #[.agg #[.int .i64 b.first, .slice A n cap, .int .i64 b.rate], .slice H m hcap] w fun e w' => e = .returned (.tuple #[.int .i64 (totP b xs).1, .int .i64 (totP b xs).2]) ∧ Below w.heap.size w w' := by
  have hbw : Below w.heap.size w (w.alloc (.cells #[.int .i64 b.first, .slice A n cap, .int .i64 b.rate] 28)) := (Below.refl _ w).alloc (Nat.le_refl _) _
  have HB := Lib.hid (Blk.new w 28 #[.int .i64 b.first, .slice A n cap, .int .i64 b.rate])
  have HBT := Lib.hid (hB.past hbw); clear hB
  have HX := Lib.hid (hX.past hbw); clear hX
  have HL := Lib.hid hl; clear hl
  have HF := Lib.hid hf; clear hf
  have hcB0 := Lib.hid (Blk.agg (cs := [.int .i64 b.first, .slice A n cap, .int .i64 b.rate]) HB.out 0 [.int .i64 b.first, .slice A n cap, .int .i64 b.rate] rfl)
  cases hp : portB b xs
  · have Q := Lib.hid (show totP b xs = (0, 1) by simp [totP, hp])
    go_enter Tryz.func37, Tryz.ntmps37
    go_wp2_with (refine wpList_load_agg rfl 28 _ rfl ⟨w.heap.size, 0, none⟩ rfl [.int .i64 b.first, .slice A n cap, .int .i64 b.rate] hcB0.out _ Tryz.underlying28 rfl Bas.size ?_)
    refine (spec_IsPortfolio_any b A n cap H m hcap xs _ HBT.out HL.out hm HX.out HF.out).mono ?_
    rw [hp]
    rintro e w1 ⟨rfl, hb1⟩
    go_wp2
    go_ret2
    exact ⟨by rw [Q.out]; rfl, hbw.trans (hb1.mono hbw.size)⟩
  obtain ⟨h30, hh⟩ := port_hold hp
  have HS := Lib.hid (resL_sums h30 hh)
  have HH := Lib.hid hh; clear hh h30
  have Q := Lib.hid (show totP b xs = ((resL b xs).sum, 0) by simp [totP, hp])
  go_enter Tryz.func37, Tryz.ntmps37
  go_wp2_with (refine wpList_load_agg rfl 28 _ rfl ⟨w.heap.size, 0, none⟩ rfl [.int .i64 b.first, .slice A n cap, .int .i64 b.rate] hcB0.out _ Tryz.underlying28 rfl Bas.size ?_)
  refine (spec_IsPortfolio_any b A n cap H m hcap xs _ HBT.out HL.out hm HX.out HF.out).mono ?_
  rw [hp]
  rintro e w1 ⟨rfl, hb1⟩
  have HB1 := Lib.hid (HB.out.below' hb1)
  have HBT1 := Lib.hid (HBT.out.past hb1)
  have HX1 := Lib.hid (HX.out.past hb1)
  have hb01 := hbw.trans (hb1.mono hbw.size)
  go_wp2
  go_loopw [6, 7] (fun s i wr => ∃ k : Nat, k ≤ m ∧ i = .int .i64 k ∧ s = .int .i64 ((resL b xs).take k).sum ∧ Below w1.heap.size w1 wr) (fun _ i _ => m - (intOf i).toNat)
  case atStart => exact ⟨0, by omega, rfl, rfl, Below.refl _ _⟩
  case round =>
    obtain ⟨k, hk, rfl, rfl, hb⟩ := hrel
    by_cases hlt : k < m
    · obtain ⟨x, hx⟩ := get_of_lt (xs := xs) (k := k) (by rw [HL.out]; exact hlt)
      obtain ⟨ad, rfl, had, _, hc⟩ := (HX1.out.past hb).at' (holdingRows_get hx)
      have HE := Lib.hid (sum_snoc (resL_get (b := b) hx))
      have Hx := Lib.hid (HH.out x (List.mem_of_getElem? hx)); clear hx
      have hbd := HS.out (k + 1)
      rw [HE.out] at hbd
      obtain ⟨b1, b2⟩ := hbd
      have HBr := Lib.hid (HB1.out.below' hb)
      have HBTr := Lib.hid (HBT1.out.past hb)
      have hcB := Lib.hid (Blk.agg_past (cs := [.int .i64 b.first, .slice A n cap, .int .i64 b.rate]) HBr.out 0 [.int .i64 b.first, .slice A n cap, .int .i64 b.rate] rfl)
      have hcH := Lib.hid (Past.cells' hc); clear hc
      go_wp2
      refine wp_region_past (by kernel_rfl) (by kernel_rfl) ?_
      repeat (first | (go_big_quiet_want; (first | (first | (refine quiet_load_agg 28 _ rfl ⟨w.heap.size, 0, none⟩ rfl [.int .i64 b.first, .slice A n cap, .int .i64 b.rate] hcB.out _ Tryz.underlying28 rfl Bas.size ?_) | (refine quiet_load_agg 90 _ rfl (ad.add (k * 7)) rfl x.row hcH.out _ Tryz.underlying90 rfl Holding.size ?_))); go_simp; go_big_quiet_on) | go_big_quiet_step ((go_at_call 106; exact past_call (spec_l17Reserve_any b A n cap x _ (HBTr.out.at_past _) Hx.out))))
      refine wpQuiet_nil ?_
      rintro _ ⟨y, rfl⟩
      go_wp2
      go_roundw
      case rel => exact ⟨k + 1, by omega, by go_num, by rw [HE.out], hb.trans (y.2.mono hb.size)⟩
      case measure => simp [intOf]; omega
    · have hkn : k = m := by omega
      subst hkn
      go_wp2
      go_ret2
      exact ⟨by rw [Q.out, take_all (by rw [resL, List.length_map]; exact HL.out)]; rfl, hb01.trans (hb.mono hb01.size)⟩

set_option maxHeartbeats 4000000 in
theorem impl_reserves_any (b : Bas) (A : Option Addr) (n cap : Nat) (H : Option Addr) (m hcap : Nat) (xs : List Holding) (w : World) (hB : BasT w A n cap b) (hl : xs.length = m) (hm : m ≤ 30) (hX : Rd w w.heap.size H 7 (holdingRows xs)) (hh : ∀ x ∈ xs, holdB b x = true) :
    Calls Tryz.prog 98 #[.agg #[.int .i64 b.first, .slice A n cap, .int .i64 b.rate], .slice H m hcap] w fun e w' => ∃ A' c', e = .returned (.slice A' m c') ∧ Res (w.heap.size + 1) w' 2 1 A' m c' (intRows (resL b xs)) ∧ Below w.heap.size w w' := by
  obtain ⟨i0, hi0, hz0, hz1, hz2⟩ := info_parts Int64.info
  have HI := Lib.hid (And.intro hi0 (And.intro hz0 (And.intro hz1 hz2))); clear hi0 hz0 hz1 hz2
  have hbw : Below w.heap.size w (w.alloc (.cells #[.int .i64 b.first, .slice A n cap, .int .i64 b.rate] 28)) := (Below.refl _ w).alloc (Nat.le_refl _) _
  have HB := Lib.hid (Blk.new w 28 #[.int .i64 b.first, .slice A n cap, .int .i64 b.rate])
  have HBT := Lib.hid (hB.past hbw); clear hB
  have HX := Lib.hid (hX.past hbw); clear hX
  have HL := Lib.hid hl; clear hl
  have HH := Lib.hid hh; clear hh
  have HR0 := Lib.hid (Res.zero_at (w := w.alloc (.cells #[.int .i64 b.first, .slice A n cap, .int .i64 b.rate] 28)) (B := w.heap.size + 1) (t := 2) (sz := 1) (g := w.heap.size + 1) (by simp) (by simp))
  go_enter Tryz.func98, Tryz.ntmps98
  go_wp2
  go_loopw [5, 11] (fun o i wr => ∃ (k : Nat) (A' : Option Addr) (c' : Nat), k ≤ m ∧ i = .int .i64 k ∧ o = .slice A' k c' ∧ Res (w.heap.size + 1) wr 2 1 A' k c' (intRows ((resL b xs).take k)) ∧ Below (w.heap.size + 1) (w.alloc (.cells #[.int .i64 b.first, .slice A n cap, .int .i64 b.rate] 28)) wr) (fun _ i _ => m - (intOf i).toNat)
  case atStart => exact ⟨0, _, _, by omega, rfl, rfl, HR0.out, (Below.refl _ _).alloc (by simp) _⟩
  case round =>
    obtain ⟨k, A', c', hk, rfl, rfl, hR, hb⟩ := hrel
    have HR := Lib.hid hR; clear hR
    have hbs : w.heap.size + 1 ≤ wr.heap.size := by have := hb.size; simpa using this
    by_cases hlt : k < m
    · obtain ⟨x, hx⟩ := get_of_lt (xs := xs) (k := k) (by rw [HL.out]; exact hlt)
      have hbr : Below (w.alloc (.cells #[.int .i64 b.first, .slice A n cap, .int .i64 b.rate] 28)).heap.size (w.alloc (.cells #[.int .i64 b.first, .slice A n cap, .int .i64 b.rate] 28)) wr := by rw [World.size_alloc]; exact hb
      obtain ⟨ad, rfl, had, _, hc⟩ := (HX.out.past hbr).at' (holdingRows_get hx)
      have HE := Lib.hid (take_succ_snoc (resL_get (b := b) hx))
      have Hx := Lib.hid (HH.out x (List.mem_of_getElem? hx)); clear hx
      have Hc := Lib.hid hc; clear hc
      have hbn : Below wr.heap.size wr (wr.alloc (.cells #[.int .i64 x.kind, .int .i64 x.age, .int .i64 x.years, .int .i64 x.sum, .int .i64 x.load, .int .i64 x.year, .int .i64 x.count] 90)) := (Below.refl _ wr).alloc (Nat.le_refl _) _
      have HBn := Lib.hid ((HB.out.below' hbr).below' hbn)
      have HBTn := Lib.hid ((HBT.out.past hbr).past hbn)
      have hcB := Lib.hid (Blk.agg (cs := [.int .i64 b.first, .slice A n cap, .int .i64 b.rate]) HBn.out 0 [.int .i64 b.first, .slice A n cap, .int .i64 b.rate] rfl)
      have hcN := Lib.hid (Blk.agg (cs := [.int .i64 x.kind, .int .i64 x.age, .int .i64 x.years, .int .i64 x.sum, .int .i64 x.load, .int .i64 x.year, .int .i64 x.count]) (Blk.new wr 90 #[.int .i64 x.kind, .int .i64 x.age, .int .i64 x.years, .int .i64 x.sum, .int .i64 x.load, .int .i64 x.year, .int .i64 x.count]) 0 [.int .i64 x.kind, .int .i64 x.age, .int .i64 x.years, .int .i64 x.sum, .int .i64 x.load, .int .i64 x.year, .int .i64 x.count] rfl)
      have hk63 : (k : Int) < 1048576 := by omega
      go_wp2_with (first | (refine wpList_load_agg rfl 90 _ rfl (ad.add (k * 7)) rfl [.int .i64 x.kind, .int .i64 x.age, .int .i64 x.years, .int .i64 x.sum, .int .i64 x.load, .int .i64 x.year, .int .i64 x.count] Hc.out _ Tryz.underlying90 rfl Holding.size ?_) | (refine wpList_load_agg rfl 90 _ rfl ⟨wr.heap.size, 0, none⟩ rfl [.int .i64 x.kind, .int .i64 x.age, .int .i64 x.years, .int .i64 x.sum, .int .i64 x.load, .int .i64 x.year, .int .i64 x.count] hcN.out _ Tryz.underlying90 rfl Holding.size ?_) | (refine wpList_load_agg rfl 28 _ rfl ⟨w.heap.size, 0, none⟩ rfl [.int .i64 b.first, .slice A n cap, .int .i64 b.rate] hcB.out _ Tryz.underlying28 rfl Bas.size ?_))
      refine (impl_Holding_reserve_any b A n cap x _ HBTn.out Hx.out).mono ?_
      rintro e w2 ⟨rfl, hb2⟩
      have hbm := hbn.trans (hb2.mono hbn.size)
      have HR2 := Lib.hid (HR.out.past hbm)
      have hb6 := hb.trans (hbm.mono hbs)
      have hs2 : w.heap.size + 1 ≤ w2.heap.size := Nat.le_trans hbs hbm.size
      go_wp2_with (at_builtin; refine wpList_append_row w2 rfl (.tmp 15) (.tmp 19) 24 rfl (w.heap.size + 1) 2 i0 _ 1 8 Tryz.underlying24 HI.out.1 HI.out.2.1 HI.out.2.2.1 HI.out.2.2.2 rfl (by decide) (by decide) A' k c' _ rfl HR2.out [.int .i64 (resV b x)] _ rfl rfl (by simp [Value.oneCell']) (by omega) hs2 ?_)
      intro B2 c2 w3 hR3 hb5
      have HR3 := Lib.hid hR3; clear hR3
      have hb7 := hb6.trans hb5
      go_wp2
      go_roundw
      case rel => exact ⟨k + 1, B2, c2, by omega, by go_num, rfl, by rw [HE.out, intRows_snoc]; exact HR3.out, hb7⟩
      case measure => simp [intOf]; omega
    · have hkn : k = m := by omega
      subst hkn
      go_wp2
      go_ret
      exact ⟨A', c', rfl, by rw [take_all (by rw [resL, List.length_map]; exact HL.out)] at HR; exact HR.out, hbw.trans (hb.mono (by omega))⟩

set_option maxHeartbeats 4000000 in
theorem impl_TotalReserve_any (b : Bas) (A : Option Addr) (n cap : Nat) (H : Option Addr) (m hcap : Nat) (xs : List Holding) (w : World) (hB : BasT w A n cap b) (hl : xs.length = m) (hm : m ≤ 1048576) (hX : Rd w w.heap.size H 7 (holdingRows xs)) (hf : ∀ x ∈ xs, x.fits) :
    Calls Tryz.prog 22 #[.agg #[.int .i64 b.first, .slice A n cap, .int .i64 b.rate], .slice H m hcap] w fun e w' => e = .returned (.tuple #[.int .i64 (totP b xs).1, .int .i64 (totP b xs).2]) ∧ Below w.heap.size w w' := by
  have hbw : Below w.heap.size w (w.alloc (.cells #[.int .i64 b.first, .slice A n cap, .int .i64 b.rate] 28)) := (Below.refl _ w).alloc (Nat.le_refl _) _
  have HB := Lib.hid (Blk.new w 28 #[.int .i64 b.first, .slice A n cap, .int .i64 b.rate])
  have HBT := Lib.hid (hB.past hbw); clear hB
  have HX := Lib.hid (hX.past hbw); clear hX
  have HL := Lib.hid hl; clear hl
  have HF := Lib.hid hf; clear hf
  have hcB := Lib.hid (Blk.agg_past (cs := [.int .i64 b.first, .slice A n cap, .int .i64 b.rate]) HB.out 0 [.int .i64 b.first, .slice A n cap, .int .i64 b.rate] rfl)
  have hcB0 := Lib.hid (Blk.agg (cs := [.int .i64 b.first, .slice A n cap, .int .i64 b.rate]) HB.out 0 [.int .i64 b.first, .slice A n cap, .int .i64 b.rate] rfl)
  cases hp : portB b xs
  · have Q := Lib.hid (show totP b xs = (0, 1) by simp [totP, hp])
    go_enter Tryz.func22, Tryz.ntmps22
    go_wp2_with (refine wpList_load_agg rfl 28 _ rfl ⟨w.heap.size, 0, none⟩ rfl [.int .i64 b.first, .slice A n cap, .int .i64 b.rate] hcB0.out _ Tryz.underlying28 rfl Bas.size ?_)
    refine (impl_IsPortfolio_any b A n cap H m hcap xs _ HBT.out HL.out hm HX.out HF.out).mono ?_
    rw [hp]
    rintro e w1 ⟨rfl, hb1⟩
    go_wp2
    go_ret2
    exact ⟨by rw [Q.out]; rfl, hbw.trans (hb1.mono hbw.size)⟩
  obtain ⟨h30, hh⟩ := port_hold hp
  have HS := Lib.hid (resL_sums h30 hh)
  have HH := Lib.hid hh; clear hh
  have hm30 : m ≤ 30 := by have := HL.out; omega
  have Q := Lib.hid (show totP b xs = ((resL b xs).sum, 0) by simp [totP, hp])
  go_enter Tryz.func22, Tryz.ntmps22
  go_wp2_with (refine wpList_load_agg rfl 28 _ rfl ⟨w.heap.size, 0, none⟩ rfl [.int .i64 b.first, .slice A n cap, .int .i64 b.rate] hcB0.out _ Tryz.underlying28 rfl Bas.size ?_)
  refine (impl_IsPortfolio_any b A n cap H m hcap xs _ HBT.out HL.out hm HX.out HF.out).mono ?_
  rw [hp]
  rintro e w1 ⟨rfl, hb1⟩
  have HBT1 := Lib.hid (HBT.out.past hb1)
  have HX1 := Lib.hid (HX.out.past hb1)
  have hb01 := hbw.trans (hb1.mono hbw.size)
  have hcB1 := Lib.hid (Blk.agg (cs := [.int .i64 b.first, .slice A n cap, .int .i64 b.rate]) (HB.out.below' hb1) 0 [.int .i64 b.first, .slice A n cap, .int .i64 b.rate] rfl)
  go_wp2_with (refine wpList_load_agg rfl 28 _ rfl ⟨w.heap.size, 0, none⟩ rfl [.int .i64 b.first, .slice A n cap, .int .i64 b.rate] hcB1.out _ Tryz.underlying28 rfl Bas.size ?_)
  refine (impl_reserves_any b A n cap H m hcap xs _ HBT1.out HL.out hm30 HX1.out HH.out).mono ?_
  rintro e w2 ⟨A', c', rfl, hR, hb2⟩
  have HR := Lib.hid hR.rd; clear hR
  have hb02 := hb01.trans (hb2.mono hb01.size)
  go_wp2_with fail
  refine (impl_total_any A' m c' (resL b xs) _ (by rw [resL, List.length_map]; exact HL.out) hm HR.out HS.out).mono ?_
  rintro e w3 ⟨rfl, rfl⟩
  go_wp2
  go_ret2
  exact ⟨by rw [Q.out]; rfl, hb02⟩

end Go.Proofs.YtbjdbpdgacfcpaaGreat
end
