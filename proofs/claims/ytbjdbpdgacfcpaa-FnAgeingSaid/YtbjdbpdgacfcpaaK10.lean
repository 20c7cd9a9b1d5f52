/- Parts of a proof, one after another: Sum, Port3, Port4, Req. No condition. -/
import Derived.Test.YtbjdbpdgacfcpaaK1
import Derived.Test.YtbjdbpdgacfcpaaK2
import Derived.Test.YtbjdbpdgacfcpaaK6
import Derived.Test.YtbjdbpdgacfcpaaK9
/- The sum of a list of numbers: the program's and the reference's contracts. -/
section
namespace Go.Proofs.Ytbjdbpdgacfcpaa
open Go.RowKit Go.BigFrame

/-- no sum of a list's first elements is too great for int64 -/
def Sums (xs : List Int) : Prop := ∀ k : Nat, -4000000000000000000 ≤ (xs.take k).sum ∧ (xs.take k).sum ≤ 4000000000000000000
theorem sum_snoc {xs : List Int} {k : Nat} {x : Int} (hx : xs[k]? = some x) : (xs.take (k + 1)).sum = (xs.take k).sum + x := by
  rw [take_succ_snoc hx]; simp
theorem sum_bound {lo hi : Int} (h0 : lo ≤ 0) (h1 : 0 ≤ hi) : ∀ (xs : List Int), (∀ x ∈ xs, lo ≤ x ∧ x ≤ hi) → lo * (xs.length : Int) ≤ xs.sum ∧ xs.sum ≤ hi * (xs.length : Int)
  | [], _ => by simp
  | x :: r, h => by
    have hx := h x (by simp)
    have := sum_bound h0 h1 r fun y hy => h y (by simp [hy])
    simp only [List.sum_cons, List.length_cons, Int.natCast_add, Int.mul_add]
    omega
theorem sums_of {xs : List Int} {hi : Int} {n : Nat} (h1 : 0 ≤ hi) (hl : xs.length ≤ n) (h : ∀ x ∈ xs, 0 ≤ x ∧ x ≤ hi) (hb : hi * (n : Int) ≤ 4000000000000000000) : Sums xs ∧ 0 ≤ xs.sum ∧ xs.sum ≤ hi * (n : Int) := by
  have key : ∀ ys : List Int, ys.length ≤ n → (∀ x ∈ ys, 0 ≤ x ∧ x ≤ hi) → 0 ≤ ys.sum ∧ ys.sum ≤ hi * (n : Int) := fun ys h2 h3 => by
    have := sum_bound (lo := 0) (by omega) h1 ys h3
    have h4 : hi * (ys.length : Int) ≤ hi * (n : Int) := Int.mul_le_mul_of_nonneg_left (by omega) h1
    rw [Int.zero_mul] at this
    omega
  refine ⟨fun k => ?_, key xs hl h⟩
  have := key (xs.take k) (by simp; omega) fun x hx => h x (List.mem_of_mem_take hx)
  omega


end Go.Proofs.Ytbjdbpdgacfcpaa
end

/- The reserves of holdings: the program's and the reference's contracts. -/
section
namespace Go.Proofs.Ytbjdbpdgacfcpaa
open Go.RowKit Go.BigFrame

set_option maxRecDepth 100000 in
set_option maxHeartbeats 6000000 in
theorem impl_Holding_parts_at (b : Bas) (A : Option Addr) (n cap : Nat) (h : Holding) (w : World) (hB : BasT w A n cap b) (Y : PolOk b h.pol) (hk : 0 ≤ h.year ∧ h.year ≤ durP b h.pol - 1) :
    Calls Try.prog 101 #[.agg h.row.toArray, .agg #[.int .i64 b.first, .slice A n cap, .int .i64 b.rate]] w fun e w' => e = .returned (.agg #[.int .i64 (partT b h.pol h.year), .int .i64 (partB b h.pol h.year), .int .i64 (partD b h.pol h.year)]) ∧ Below w.heap.size w w' := by
  have hbw : Below w.heap.size w (((w.alloc (.cells #[.int .i64 h.kind, .int .i64 h.age, .int .i64 h.years, .int .i64 h.sum, .int .i64 h.load, .int .i64 h.year, .int .i64 h.count] 37)).alloc (.cells #[.int .i64 b.first, .slice A n cap, .int .i64 b.rate] 28)).alloc (.cells #[.int .i64 0, .int .i64 0, .int .i64 0] 90)) := (((Below.refl _ w).alloc (Nat.le_refl _) _).alloc (by simp) _).alloc (by simp <;> omega) _
  have HH := Lib.hid (((Blk.new w 37 #[.int .i64 h.kind, .int .i64 h.age, .int .i64 h.years, .int .i64 h.sum, .int .i64 h.load, .int .i64 h.year, .int .i64 h.count]).alloc (.cells #[.int .i64 b.first, .slice A n cap, .int .i64 b.rate] 28)).alloc (.cells #[.int .i64 0, .int .i64 0, .int .i64 0] 90))
  have HB := Lib.hid ((Blk.new (w.alloc (.cells #[.int .i64 h.kind, .int .i64 h.age, .int .i64 h.years, .int .i64 h.sum, .int .i64 h.load, .int .i64 h.year, .int .i64 h.count] 37)) 28 #[.int .i64 b.first, .slice A n cap, .int .i64 b.rate]).alloc (.cells #[.int .i64 0, .int .i64 0, .int .i64 0] 90))
  have HR := Lib.hid (Blk.new ((w.alloc (.cells #[.int .i64 h.kind, .int .i64 h.age, .int .i64 h.years, .int .i64 h.sum, .int .i64 h.load, .int .i64 h.year, .int .i64 h.count] 37)).alloc (.cells #[.int .i64 b.first, .slice A n cap, .int .i64 b.rate] 28)) 90 #[.int .i64 0, .int .i64 0, .int .i64 0])
  simp only [World.size_alloc] at HB HR
  have HBT := Lib.hid hB; clear hB
  have HY := Lib.hid Y; clear Y; have HYK := Lib.hid hk; clear hk
  unfold Holding.row at *
  have HBW := Lib.hid (show ∀ w', Below (w.heap.size + 2) (((w.alloc (.cells #[.int .i64 h.kind, .int .i64 h.age, .int .i64 h.years, .int .i64 h.sum, .int .i64 h.load, .int .i64 h.year, .int .i64 h.count] 37)).alloc (.cells #[.int .i64 b.first, .slice A n cap, .int .i64 b.rate] 28)).alloc (.cells #[.int .i64 0, .int .i64 0, .int .i64 0] 90)) w' → Below w.heap.size w w' from fun w' q => hbw.trans (q.mono (by omega)))
  have HS := Lib.hid (show ∀ w', Below (w.heap.size + 2) (((w.alloc (.cells #[.int .i64 h.kind, .int .i64 h.age, .int .i64 h.years, .int .i64 h.sum, .int .i64 h.load, .int .i64 h.year, .int .i64 h.count] 37)).alloc (.cells #[.int .i64 b.first, .slice A n cap, .int .i64 b.rate] 28)).alloc (.cells #[.int .i64 0, .int .i64 0, .int .i64 0] 90)) w' → Below (w.heap.size + 2) (((w.alloc (.cells #[.int .i64 h.kind, .int .i64 h.age, .int .i64 h.years, .int .i64 h.sum, .int .i64 h.load, .int .i64 h.year, .int .i64 h.count] 37)).alloc (.cells #[.int .i64 b.first, .slice A n cap, .int .i64 b.rate] 28)).alloc (.cells #[.int .i64 0, .int .i64 0, .int .i64 0] 90)) w' ∧ w'.cell? ⟨w.heap.size, 0, none⟩ = some (.int .i64 h.kind) ∧ w'.cell? ⟨w.heap.size, 1, none⟩ = some (.int .i64 h.age) ∧ w'.cell? ⟨w.heap.size, 2, none⟩ = some (.int .i64 h.years) ∧ w'.cell? ⟨w.heap.size, 3, none⟩ = some (.int .i64 h.sum) ∧ w'.cell? ⟨w.heap.size, 4, none⟩ = some (.int .i64 h.load) ∧ w'.cell? ⟨w.heap.size, 5, none⟩ = some (.int .i64 h.year) ∧ w'.cell? ⟨w.heap.size, 6, none⟩ = some (.int .i64 h.count) ∧ w'.cell? ⟨w.heap.size + 1, 0, none⟩ = some (.int .i64 b.first) ∧ w'.cell? ⟨w.heap.size + 1, 1, none⟩ = some (.slice A n cap) ∧ w'.cell? ⟨w.heap.size + 1, 2, none⟩ = some (.int .i64 b.rate) from fun w' q => by
    have HH' := HH.out.below q (by omega)
    have HB' := HB.out.below q (by omega)
    exact ⟨q, (HH'.cell 0), (HH'.cell 1), (HH'.cell 2), (HH'.cell 3), (HH'.cell 4), (HH'.cell 5), (HH'.cell 6), (HB'.cell 0), (HB'.cell 1), (HB'.cell 2)⟩)
  go_enter Try.func101, Try.ntmps101
  go_wp2
  go_region_held3 (fun w' => Below (w.heap.size + 2) (((w.alloc (.cells #[.int .i64 h.kind, .int .i64 h.age, .int .i64 h.years, .int .i64 h.sum, .int .i64 h.load, .int .i64 h.year, .int .i64 h.count] 37)).alloc (.cells #[.int .i64 b.first, .slice A n cap, .int .i64 b.rate] 28)).alloc (.cells #[.int .i64 0, .int .i64 0, .int .i64 0] 90)) w' ∧ w'.cell? ⟨w.heap.size, 0, none⟩ = some (.int .i64 h.kind) ∧ w'.cell? ⟨w.heap.size, 1, none⟩ = some (.int .i64 h.age) ∧ w'.cell? ⟨w.heap.size, 2, none⟩ = some (.int .i64 h.years) ∧ w'.cell? ⟨w.heap.size, 3, none⟩ = some (.int .i64 h.sum) ∧ w'.cell? ⟨w.heap.size, 4, none⟩ = some (.int .i64 h.load) ∧ w'.cell? ⟨w.heap.size, 5, none⟩ = some (.int .i64 h.year) ∧ w'.cell? ⟨w.heap.size, 6, none⟩ = some (.int .i64 h.count) ∧ w'.cell? ⟨w.heap.size + 1, 0, none⟩ = some (.int .i64 b.first) ∧ w'.cell? ⟨w.heap.size + 1, 1, none⟩ = some (.slice A n cap) ∧ w'.cell? ⟨w.heap.size + 1, 2, none⟩ = some (.int .i64 b.rate)) (first | exact HS.out _ (Below.drew (Below.refl _ _)) | exact HS.out _ hc4 | exact HS.out _ hc3 | exact HS.out _ (Below.setCell (Below.setCell (Below.setCell hc4 (by show _ ≤ _; simp) _) (by show _ ≤ _; simp) _) (by show _ ≤ _; simp) _)) (first | (go_at_call 112; rename Below (w.heap.size + 2) _ _ ∧ _ => hH; have hHw := HBW.out _ hH.1; refine (impl_columnsOf_any b.first A n cap b.lives b.rate _ (HBT.out.past hHw).lives HY.out.tab ⟨HY.out.rate0, HY.out.rate1⟩).mono ?_; rintro e w3 ⟨g, rfl, hL, hb3⟩; have hc3 := Below.trans hH.1 (hb3.mono (by first | exact Nat.le_trans (by simp) hH.1.size | simp)); have HL3 := Lib.hid hL; clear hL; have HR3 := Lib.hid (HR.out.drew.below' hb3)) | (go_at_call 121; rename Below (w.heap.size + 2) _ _ ∧ _ => hH; have hHw := HBW.out _ hH.1; refine (impl_partsAt_any b A n cap h.pol (some ⟨g, 0, none⟩) _ h.year _ (HBT.out.past hHw) HY.out HYK.out HL3.out).mono ?_; rintro e w4 ⟨rfl, hb4⟩; have hc4 := Below.trans hH.1 (hb4.mono (by first | exact Nat.le_trans (by simp) hH.1.size | simp)); have HR4 := Lib.hid (HR3.out.below' hb4); have zc0 : w4.cell? ⟨w.heap.size + 1 + 1, 0, none⟩ = some (.int .i64 0) := (HR4.out).cell 0; have zc1 : w4.cell? ⟨w.heap.size + 1 + 1, 1, none⟩ = some (.int .i64 0) := (HR4.out).cell 1; have zc2 : w4.cell? ⟨w.heap.size + 1 + 1, 2, none⟩ = some (.int .i64 0) := (HR4.out).cell 2; have zf0 : w4.frozen? ⟨w.heap.size + 1 + 1, 0, none⟩ = false := (HR4.out).frozen 0; have zf1 : w4.frozen? ⟨w.heap.size + 1 + 1, 1, none⟩ = false := (HR4.out).frozen 1; have zf2 : w4.frozen? ⟨w.heap.size + 1 + 1, 2, none⟩ = false := (HR4.out).frozen 2))
  all_goals (rename Below (w.heap.size + 2) _ _ ∧ _ => hE; replace hE := HBW.out _ hE.1)
  · have hK : Blk (((w4.setCell ⟨w.heap.size + 1 + 1, 0, none⟩ (.int .i64 (partT b h.pol h.year))).setCell ⟨w.heap.size + 1 + 1, 1, none⟩ (.int .i64 (partB b h.pol h.year))).setCell ⟨w.heap.size + 1 + 1, 2, none⟩ (.int .i64 (partD b h.pol h.year))) (w.heap.size + 1 + 1) 90 #[.int .i64 (partT b h.pol h.year), .int .i64 (partB b h.pol h.year), .int .i64 (partD b h.pol h.year)] := by simpa using ((HR4.out.set_ 0 (.int .i64 (partT b h.pol h.year))).set_ 1 (.int .i64 (partB b h.pol h.year))).set_ 2 (.int .i64 (partD b h.pol h.year))
    have HW := Lib.hid (And.intro hE hK); clear hK hE
    generalize (((w4.setCell ⟨w.heap.size + 1 + 1, 0, none⟩ (.int .i64 (partT b h.pol h.year))).setCell ⟨w.heap.size + 1 + 1, 1, none⟩ (.int .i64 (partB b h.pol h.year))).setCell ⟨w.heap.size + 1 + 1, 2, none⟩ (.int .i64 (partD b h.pol h.year))) = W5 at HW ⊢
    obtain ⟨hE, hK⟩ := HW.out
    have r0 : W5.cell? ⟨w.heap.size + 1 + 1, 0, none⟩ = some (.int .i64 (partT b h.pol h.year)) := hK.cell 0
    have r1 : W5.cell? ⟨w.heap.size + 1 + 1, 1, none⟩ = some (.int .i64 (partB b h.pol h.year)) := hK.cell 1
    have r2 : W5.cell? ⟨w.heap.size + 1 + 1, 2, none⟩ = some (.int .i64 (partD b h.pol h.year)) := hK.cell 2
    have HE := Lib.hid hE
    clear hK hE
    go_wp2
    refine bodyPost_ret (v := .agg #[.int .i64 (partT b h.pol h.year), .int .i64 (partB b h.pol h.year), .int .i64 (partD b h.pol h.year)]) (by simp [results, Try.results101, go_sem, r0, r1, r2]) rfl ⟨rfl, HE.out⟩
theorem impl_Holding_parts_any (b : Bas) (A : Option Addr) (n cap : Nat) (h : Holding) (w : World) (hB : BasT w A n cap b) (Y : YearOk b h.pol h.year) :
    Calls Try.prog 101 #[.agg h.row.toArray, .agg #[.int .i64 b.first, .slice A n cap, .int .i64 b.rate]] w fun e w' => e = .returned (.agg #[.int .i64 (partT b h.pol h.year), .int .i64 (partB b h.pol h.year), .int .i64 (partD b h.pol h.year)]) ∧ Below w.heap.size w w' :=
  impl_Holding_parts_at b A n cap h w hB Y.toPolOk ⟨Y.k0, Y.k1⟩

def resV (b : Bas) (h : Holding) : Int := h.count * resAt b h.pol h.year
theorem hold_pol {b : Bas} {h : Holding} (H : holdB b h = true) : polB b h.pol = true := by
  simp only [holdB, Bool.and_eq_true, beq_iff_eq] at H
  have h2 := H.2
  unfold resCode at h2
  cases hp : polB b h.pol
  · rw [hp] at h2; simp at h2
  · rfl
theorem resV_bound {b : Bas} {h : Holding} (H : holdB b h = true) : 0 ≤ resV b h ∧ resV b h ≤ 100000001000000 := by
  obtain ⟨⟨c0, c1⟩, Y⟩ := hold_ok H
  obtain ⟨r0, r1⟩ := res_bound Y
  unfold resV
  refine ⟨Int.mul_nonneg c0 r0, ?_⟩
  have h1 : h.count * resAt b h.pol h.year ≤ 1000000 * resAt b h.pol h.year := Int.mul_le_mul_of_nonneg_right c1 r0
  omega

end Go.Proofs.Ytbjdbpdgacfcpaa
end

/- The reserve of a portfolio: the program's and the reference's contracts. -/
section
namespace Go.Proofs.Ytbjdbpdgacfcpaa
open Go.RowKit Go.BigFrame

def resL (b : Bas) (xs : List Holding) : List Int := xs.map (resV b)
theorem resL_get {b : Bas} {xs : List Holding} {k : Nat} {x : Holding} (h : xs[k]? = some x) : (resL b xs)[k]? = some (resV b x) := by simp [resL, h]
theorem resL_sums {b : Bas} {xs : List Holding} (hl : xs.length ≤ 30) (hh : ∀ x ∈ xs, holdB b x = true) : Sums (resL b xs) :=
  (sums_of (n := 30) (hi := 100000001000000) (by omega) (by simpa [resL] using hl) (fun v hv => by
    obtain ⟨x, hx, rfl⟩ := List.mem_map.1 hv
    exact resV_bound (hh x hx)) (by omega)).1
theorem port_hold {b : Bas} {xs : List Holding} (H : portB b xs = true) : xs.length ≤ 30 ∧ ∀ x ∈ xs, holdB b x = true := by
  simp only [portB, Bool.and_eq_true, decide_eq_true_eq, List.all_eq_true] at H
  exact ⟨H.2.1, H.2.2⟩
def totP (b : Bas) (xs : List Holding) : Int × Int := if portB b xs = true then ((resL b xs).sum, 0) else (0, 1)

end Go.Proofs.Ytbjdbpdgacfcpaa
end

/- The reserve that a scenario requires: the program's and the reference's contracts. -/
section
namespace Go.Proofs.Ytbjdbpdgacfcpaa
open Go.RowKit Go.BigFrame

def reqV (b c : Bas) (x : Holding) : Int := x.count * roundP (fwdP x.pol.sum (partT c x.pol x.year) (netP b x.pol) (partB c x.pol x.year) (partD c x.pol x.year))
def reqL (b c : Bas) (xs : List Holding) : List Int := xs.map (reqV b c)
def reqIn (b : Bas) (xs : List Holding) (r : Scenario) (i : Bool) : Int × Int :=
  if portB b xs = true then (if (i && scenB b r) = true then (if portB (chgB b r) xs = true then ((reqL b (chgB b r) xs).sum, 0) else (0, 5)) else (0, 2)) else (0, 1)
def reqP (b : Bas) (xs : List Holding) (r : Scenario) : Int × Int := reqIn b xs r true
theorem req_part {b c : Bas} {x : Holding} (H : holdB b x = true) (H' : holdB c x = true) : PartOk x.pol.sum (partT c x.pol x.year) (netP b x.pol) (partB c x.pol x.year) (partD c x.pol x.year) := part_ok (hold_ok H').2 (net_bound (pol_ok (hold_pol H)))
theorem reqV_bound {b c : Bas} {x : Holding} (H : holdB b x = true) (H' : holdB c x = true) : 0 ≤ reqV b c x ∧ reqV b c x ≤ 100000001000000 := by
  obtain ⟨⟨c0, c1⟩, _⟩ := hold_ok H
  obtain ⟨r0, r1⟩ := round_bound (req_part H H')
  unfold reqV
  refine ⟨Int.mul_nonneg c0 r0, ?_⟩
  have h1 : x.count * roundP (fwdP x.pol.sum (partT c x.pol x.year) (netP b x.pol) (partB c x.pol x.year) (partD c x.pol x.year)) ≤ 1000000 * roundP (fwdP x.pol.sum (partT c x.pol x.year) (netP b x.pol) (partB c x.pol x.year) (partD c x.pol x.year)) := Int.mul_le_mul_of_nonneg_right c1 r0
  omega
theorem reqL_get {b c : Bas} {xs : List Holding} {k : Nat} {x : Holding} (h : xs[k]? = some x) : (reqL b c xs)[k]? = some (reqV b c x) := by simp [reqL, h]
theorem reqL_sums {b c : Bas} {xs : List Holding} (hl : xs.length ≤ 30) (hh : ∀ x ∈ xs, holdB b x = true) (hh' : ∀ x ∈ xs, holdB c x = true) : Sums (reqL b c xs) ∧ 0 ≤ (reqL b c xs).sum ∧ (reqL b c xs).sum ≤ 100000001000000 * (30 : Nat) :=
  sums_of (n := 30) (hi := 100000001000000) (by omega) (by simpa [reqL] using hl) (fun v hv => by
    obtain ⟨x, hx, rfl⟩ := List.mem_map.1 hv
    exact reqV_bound (hh x hx) (hh' x hx)) (by omega)
theorem port_basis {b : Bas} {xs : List Holding} (H : portB b xs = true) : basisB b = true := by
  simp only [portB, Bool.and_eq_true] at H; exact H.1
theorem BasT.of_res {w : World} {B n c : Nat} {A : Option Addr} {b : Bas} (h : Res B w 2 1 A n c (intRows b.lives)) (hl : b.lives.length ≤ 1048576) (hf : ∀ x ∈ b.lives, In64 x) (h1 : In64 b.first) (h2 : In64 b.rate) : BasT w A n c b := by
  have hn : b.lives.length = n := by have := h.len; rwa [intRows_length] at this
  have hc : n ≤ c := by
    rcases h.own.2 with ⟨h1, h2⟩ | ⟨g, c, cur, e, _, _, hnc, _⟩
    · simp only [Value.slice.injEq] at h1; omega
    · simp only [Value.slice.injEq] at e; omega
  exact ⟨⟨hn, by omega, h.rd, hf⟩, hc, h1, h2⟩
theorem chgB_basT {w : World} {B n c : Nat} {A : Option Addr} {b : Bas} {r : Scenario} (hb : BasOk b) (hs : scenB b r = true) (h : Res B w 2 1 A n c (intRows (chgB b r).lives)) : BasT w A n c (chgB b r) := by
  obtain ⟨h3, h4, h5⟩ := scen_ok hs
  have := hb.tab.first0; have := hb.tab.first1
  refine BasT.of_res h ?_ (chgL_fits hb.tab h4) (by unfold chgB In64; simp only; omega) (by unfold chgB In64; simp only; omega)
  have h6 := chgLen_le (xs := b.lives) (dt := r.death)
  have h7 := hb.tab.len1
  simp only [chgB, chgL_length]; omega


end Go.Proofs.Ytbjdbpdgacfcpaa
end
