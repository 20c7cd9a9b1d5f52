/- Parts of a proof, one after another: ValP, Val, Val1, Val2. No condition. -/
import Derived.Test.YtbjdbpdgacfcpaaGreatK1
import Derived.Test.YtbjdbpdgacfcpaaGreatK12
import Derived.Test.YtbjdbpdgacfcpaaGreatK17
/- Expected claims, maturing sums, and the parts of a portfolio's reserve: plain laws. No program. -/
section
namespace Go.Proofs.YtbjdbpdgacfcpaaGreat
open Go.RowKit Go.BigFrame

def livAt (b : Bas) (h : Holding) : Int := lv b.lives (b.ix (h.age + h.year))
def dieAt (b : Bas) (h : Holding) : Int := lv b.lives (b.ix (h.age + h.year)) - lv b.lives (b.ix (h.age + h.year) + 1)
def csP (h : Holding) : Int := h.count * h.sum
def claimV (b : Bas) (h : Holding) : Int := if h.kind = 3 then 0 else upP (csP h) (dieAt b h) (livAt b h)
theorem upP_comm (a b c : Int) : upP a b c = upP b a c := by unfold upP; rw [Int.mul_comm]
structure ClaimOk (b : Bas) (h : Holding) : Prop where
  age0 : b.first ≤ h.age + h.year
  age1 : h.age + h.year ≤ 300
  cs0 : 0 ≤ csP h
  cs1 : csP h ≤ 100000000000000
  l0 : 1 ≤ livAt b h
  l1 : livAt b h ≤ 1000000
  d0 : 0 ≤ dieAt b h
  d1 : dieAt b h ≤ livAt b h
  q0 : 0 ≤ csP h * dieAt b h / livAt b h
  q1 : csP h * dieAt b h / livAt b h ≤ 100000000000000
  v0 : 0 ≤ upP (csP h) (dieAt b h) (livAt b h)
  v1 : upP (csP h) (dieAt b h) (livAt b h) ≤ 100000000000000
theorem claim_ok {b : Bas} {h : Holding} (H : holdB b h = true) : ClaimOk b h := by
  obtain ⟨⟨c0, c1⟩, Y⟩ := hold_ok H
  have s0 : 1 ≤ h.sum := Y.sum0
  have s1 : h.sum ≤ 100000000 := Y.sum1
  have a0 : b.first ≤ h.age := Y.age0
  have a1 : h.age ≤ 150 := Y.age1
  have k0 : 0 ≤ h.year := Y.k0
  have k1 : h.year ≤ durP b h.pol - 1 := Y.k1
  have db := dur_bound Y.toPolOk
  have hd : 1 ≤ lv b.lives (b.ix (h.age + h.year)) * disc b.rate (b.ix (h.age + h.year)) := Y.d1
  have T := Y.tab
  have l0 : 1 ≤ livAt b h := by
    have h1 := T.nonneg (b.ix (h.age + h.year))
    unfold livAt
    by_cases h2 : lv b.lives (b.ix (h.age + h.year)) = 0
    · rw [h2, Int.zero_mul] at hd; omega
    · omega
  have l1 : livAt b h ≤ 1000000 := T.most _
  have d0 : 0 ≤ dieAt b h := by have := T.anti (b.ix (h.age + h.year)); unfold dieAt; omega
  have d1 : dieAt b h ≤ livAt b h := by have := T.nonneg (b.ix (h.age + h.year) + 1); unfold dieAt livAt; omega
  have cs0 : 0 ≤ csP h := Int.mul_nonneg c0 (by omega)
  have cs1 : csP h ≤ 100000000000000 := by
    have := Int.mul_le_mul c1 s1 (by omega) (by omega)
    unfold csP; omega
  have u := up_le cs0 d0 l0 d1
  have q := mul_div_le (a := csP h) (m := 1) cs0 d0 l0 (by omega)
  exact ⟨by omega, by omega, cs0, cs1, l0, l1, d0, d1, q.1, by omega, u.1, by omega⟩
theorem claimV_bound {b : Bas} {h : Holding} (H : holdB b h = true) : 0 ≤ claimV b h ∧ claimV b h ≤ 100000000000000 := by
  have C := claim_ok H
  have := C.v0; have := C.v1
  unfold claimV
  split <;> omega
def matB (b : Bas) (h : Holding) : Bool := decide (2 ≤ h.kind) && decide (h.year = durP b h.pol - 1)
def matV (b : Bas) (h : Holding) : Int := if matB b h = true then csP h else 0
theorem matV_bound {b : Bas} {h : Holding} (H : holdB b h = true) : 0 ≤ matV b h ∧ matV b h ≤ 100000000000000 := by
  have C := claim_ok H
  have := C.cs0; have := C.cs1
  unfold matV
  split <;> omega
def claimL (b : Bas) (xs : List Holding) : List Int := xs.map (claimV b)
def matL (b : Bas) (xs : List Holding) : List Int := xs.map (matV b)
theorem claimL_get {b : Bas} {xs : List Holding} {k : Nat} {x : Holding} (h : xs[k]? = some x) : (claimL b xs)[k]? = some (claimV b x) := by simp [claimL, h]
theorem matL_get {b : Bas} {xs : List Holding} {k : Nat} {x : Holding} (h : xs[k]? = some x) : (matL b xs)[k]? = some (matV b x) := by simp [matL, h]
theorem claimL_sums {b : Bas} {xs : List Holding} (hl : xs.length ≤ 30) (hh : ∀ x ∈ xs, holdB b x = true) : Sums (claimL b xs) :=
  (sums_of (n := 30) (hi := 100000000000000) (by omega) (by simpa [claimL] using hl) (fun v hv => by
    obtain ⟨x, hx, rfl⟩ := List.mem_map.1 hv
    exact claimV_bound (hh x hx)) (by omega)).1
theorem matL_sums {b : Bas} {xs : List Holding} (hl : xs.length ≤ 30) (hh : ∀ x ∈ xs, holdB b x = true) : Sums (matL b xs) :=
  (sums_of (n := 30) (hi := 100000000000000) (by omega) (by simpa [matL] using hl) (fun v hv => by
    obtain ⟨x, hx, rfl⟩ := List.mem_map.1 hv
    exact matV_bound (hh x hx)) (by omega)).1
def claimsP (b : Bas) (xs : List Holding) : Int × Int := if portB b xs = true then ((claimL b xs).sum, 0) else (0, 1)
def matsP (b : Bas) (xs : List Holding) : Int × Int := if portB b xs = true then ((matL b xs).sum, 0) else (0, 1)

/- the law's facts -/
theorem val_codes (b : Bas) (xs : List Holding) : (kindsP b xs).2 = (totP b xs).2 ∧ (claimsP b xs).2 = (totP b xs).2 ∧ (matsP b xs).2 = (totP b xs).2 ∧ ((totP b xs).2 == 0) = portB b xs := by
  unfold kindsP claimsP matsP totP
  cases portB b xs <;> simp
theorem one_port {b : Bas} {xs : List Holding} {x : Holding} (H : portB b xs = true) (hx : x ∈ xs) : totP b [x] = (resV b x, 0) := by
  have hp : portB b [x] = true := by
    have h1 := port_hold H
    simp only [portB, Bool.and_eq_true] at H
    simp [portB, H.1, h1.2 x hx]
  simp [totP, hp, resL]
theorem kindV_sum {b : Bas} {h : Holding} (H : holdB b h = true) : kindV b 0 h + kindV b 1 h + kindV b 2 h + kindV b 3 h = resV b h := by
  unfold kindV
  rcases hold_kind H with h | h | h | h <;> rw [h] <;> simp
theorem kinds_sum {b : Bas} {xs : List Holding} (hh : ∀ x ∈ xs, holdB b x = true) : ∀ k, k ≤ xs.length → kindAt b xs 0 k + kindAt b xs 1 k + kindAt b xs 2 k + kindAt b xs 3 k = ((resL b xs).take k).sum
  | 0, _ => by simp [kindAt_zero]
  | k + 1, hk => by
    obtain ⟨x, hx⟩ := get_of_lt (xs := xs) (k := k) (by omega)
    have ih := kinds_sum hh k (by omega)
    have h1 := kindV_sum (hh x (List.mem_of_getElem? hx))
    rw [kindAt_succ hx, kindAt_succ hx, kindAt_succ hx, kindAt_succ hx, sum_snoc (resL_get (b := b) hx)]
    omega
theorem kinds_total {b : Bas} {xs : List Holding} (H : portB b xs = true) : (kindsP b xs).1.sum = (totP b xs).1 := by
  have h1 := kinds_sum (port_hold H).2 xs.length (Nat.le_refl _)
  rw [take_all (by simp [resL])] at h1
  simp only [kindsP, totP, if_pos H]
  simp only [List.sum_cons, List.sum_nil]
  omega
theorem large_most {b : Bas} {xs : List Holding} {k : Nat} {x : Holding} (H : portB b xs = true) (hx : xs[k]? = some x) :
    ∃ (j : Nat) (y : Holding), largeP b xs = ((j : Int), 0) ∧ j < xs.length ∧ xs[j]? = some y ∧ resV b x ≤ resV b y := by
  have hk : k < xs.length := (List.getElem?_eq_some_iff.1 hx).1
  have hj := best_lt (ys := resL b xs) (n := xs.length) (by omega) xs.length (Nat.le_refl _)
  obtain ⟨y, hy⟩ := get_of_lt (xs := xs) (k := bestIx (resL b xs) xs.length) hj
  refine ⟨_, y, by unfold largeP; rw [if_pos H, if_neg (by omega)], hj, hy, ?_⟩
  have := best_max (ys := resL b xs) xs.length k hk
  rw [gd_get (resL_get hx), gd_get (resL_get hy)] at this
  exact this
theorem large_code (b : Bas) (xs : List Holding) : portB b xs = false → (largeP b xs).2 = (totP b xs).2 := fun h => by simp [largeP, totP, h]
theorem kinds_sums {b : Bas} {xs : List Holding} (H : portB b xs = true) : ∀ k : Nat, -4000000000000000000 ≤ ((kindsP b xs).1.take k).sum ∧ ((kindsP b xs).1.take k).sum ≤ 4000000000000000000 := by
  obtain ⟨h30, hh⟩ := port_hold H
  have hb : ∀ j : Int, 0 ≤ kindAt b xs j xs.length ∧ kindAt b xs j xs.length ≤ 100000001000000 * 30 := fun j => by
    have := (sums_of (xs := kindL b j xs) (n := 30) (hi := 100000001000000) (by omega) (by simpa [kindL] using h30) (fun v hv => by
      obtain ⟨x, hx, rfl⟩ := List.mem_map.1 hv
      have := resV_bound (hh x hx)
      unfold kindV
      split <;> omega) (by omega)).2
    unfold kindAt
    rw [take_all (by simp [kindL])]
    exact this
  have h0 := hb 0; have h1 := hb 1; have h2 := hb 2; have h3 := hb 3
  simp only [kindsP, if_pos H]
  intro k
  match k with
  | 0 => simp
  | 1 => simp only [List.take_succ_cons, List.take_zero, List.sum_cons, List.sum_nil]; omega
  | 2 => simp only [List.take_succ_cons, List.take_zero, List.sum_cons, List.sum_nil]; omega
  | 3 => simp only [List.take_succ_cons, List.take_zero, List.sum_cons, List.sum_nil]; omega
  | k + 4 => simp only [List.take_succ_cons, List.take_nil, List.sum_cons, List.sum_nil]; omega
theorem holding_one {w : World} {A : Option Addr} {xs : List Holding} {k : Nat} {x : Holding} (h : Rd w w.heap.size A 7 (holdingRows xs)) (hx : xs[k]? = some x) : Rd w w.heap.size (A.map (·.add (k * 7))) 7 (holdingRows [x]) := by
  have h1 := (h.cut k).take 1
  have e : ((holdingRows xs).drop k).take 1 = holdingRows [x] := by
    apply List.ext_getElem?
    intro i
    rw [List.getElem?_take]
    match i with
    | 0 => simp [hx, holdingRows]
    | i + 1 => simp [holdingRows]
  rw [e] at h1
  exact h1
end Go.Proofs.YtbjdbpdgacfcpaaGreat
end

/- When holdings mature: contracts (printed by val.py). -/
section
namespace Go.Proofs.YtbjdbpdgacfcpaaGreat
open Go.RowKit Go.BigFrame

theorem Rd.boxP {w : World} {B g sz : Nat} {x : Holding} (h : Rd w B (some ⟨g, 0, none⟩) sz [[.int .i64 x.kind, .int .i64 x.age, .int .i64 x.years, .int .i64 x.sum, .int .i64 x.load, .int .i64 x.year, .int .i64 x.count]]) :
    ∀ (j : Nat) (v : Value), ([.int .i64 x.kind, .int .i64 x.age, .int .i64 x.years, .int .i64 x.sum, .int .i64 x.load] : List Value)[j]? = some v → w.cell? ((⟨g, 0, none⟩ : Addr).add j) = some v := fun j v hv => Rd.box h j v (by
  match j, hv with
  | 0, hv => simpa using hv
  | 1, hv => simpa using hv
  | 2, hv => simpa using hv
  | 3, hv => simpa using hv
  | 4, hv => simpa using hv)
set_option maxRecDepth 20000 in
set_option maxHeartbeats 8000000 in
theorem impl_Holding_matures_any (b : Bas) (A : Option Addr) (n cap : Nat) (x : Holding) (w : World) (hB : BasT w A n cap b) (hh : holdB b x = true) :
    Calls Tryz.prog 115 #[.agg x.row.toArray, .agg #[.int .i64 b.first, .slice A n cap, .int .i64 b.rate]] w fun e w' => e = .returned (.bool (matB b x)) ∧ Below w.heap.size w w' := by
  unfold Holding.row
  have HB := Lib.hid (Below.refl w.heap.size w)
  have HH := Lib.hid (Held.nil w)
  have HT := Lib.hid hB; clear hB
  obtain ⟨hb, hr0, hr1⟩ := box2 (w := w) (tx := 90) (ty := 28) (X := [.int .i64 x.kind, .int .i64 x.age, .int .i64 x.years, .int .i64 x.sum, .int .i64 x.load, .int .i64 x.year, .int .i64 x.count]) (Y := [.int .i64 b.first, .slice A n cap, .int .i64 b.rate])
  replace HB := Lib.hid (below_all HB.out hb)
  replace HT := Lib.hid (HT.out.past hb)
  replace HH := Lib.hid (((HH.out.past hb).cons hr0).cons hr1)
  clear hb hr0 hr1
  have HPO := Lib.hid (pol_ok (hold_pol hh)); clear hh
  have hd1 := dur_low HPO.out
  have hd2 := dur_bound HPO.out
  by_cases hk : 2 ≤ x.kind
  · skip
    have Q := Lib.hid (show matB b x = decide (x.year = durP b x.pol - 1) by simp [matB, hk])
    have hk2 : decide (2 ≤ x.kind) = true := by simpa using hk
    clear hk
    go_enter Tryz.func115, Tryz.ntmps115
    go_upto_region 1 with fail
    generalize ((w.alloc (.cells #[.int .i64 x.kind, .int .i64 x.age, .int .i64 x.years, .int .i64 x.sum, .int .i64 x.load, .int .i64 x.year, .int .i64 x.count] 90)).alloc (.cells #[.int .i64 b.first, .slice A n cap, .int .i64 b.rate] 28)) = v0 at HB HH HT ⊢
    generalize w.heap.size + 1 = g0_1 at HH ⊢
    generalize w.heap.size = g0_0 at HH ⊢
    have d0 := fun y : Past v0 => Past.cell (p := ⟨g0_0, 0, none⟩) (v := .int .i64 x.kind) (Rd.bcell (HH.out.get 1 rfl) 0 rfl) y
    have d1 := fun y : Past v0 => Past.cell (p := ⟨g0_0, 1, none⟩) (v := .int .i64 x.age) (Rd.bcell (HH.out.get 1 rfl) 1 rfl) y
    have d2 := fun y : Past v0 => Past.cell (p := ⟨g0_0, 2, none⟩) (v := .int .i64 x.years) (Rd.bcell (HH.out.get 1 rfl) 2 rfl) y
    have d3 := fun y : Past v0 => Past.cell (p := ⟨g0_0, 3, none⟩) (v := .int .i64 x.sum) (Rd.bcell (HH.out.get 1 rfl) 3 rfl) y
    have d4 := fun y : Past v0 => Past.cell (p := ⟨g0_0, 4, none⟩) (v := .int .i64 x.load) (Rd.bcell (HH.out.get 1 rfl) 4 rfl) y
    have d5 := fun y : Past v0 => Past.cell (p := ⟨g0_0, 5, none⟩) (v := .int .i64 x.year) (Rd.bcell (HH.out.get 1 rfl) 5 rfl) y
    have d6 := fun y : Past v0 => Past.cell (p := ⟨g0_0, 6, none⟩) (v := .int .i64 x.count) (Rd.bcell (HH.out.get 1 rfl) 6 rfl) y
    go_wp2
    have hQ_pq := Lib.hid (Past.cells' (Rd.boxP (HH.out.get 1 rfl)))
    have hQ_bx := Lib.hid (Past.cells' (Rd.box (HH.out.get 0 rfl)))
    refine wp_region_past (by kernel_rfl) (by kernel_rfl) ?_
    repeat (first | (go_big_quiet_want; (first | (first | (refine quiet_load_agg 28 _ rfl ⟨g0_1, 0, none⟩ rfl [.int .i64 b.first, .slice A n cap, .int .i64 b.rate] hQ_bx.out _ Tryz.underlying28 rfl Bas.size ?_) | (refine quiet_load_agg 88 _ rfl ⟨g0_0, 0, none⟩ rfl [.int .i64 x.kind, .int .i64 x.age, .int .i64 x.years, .int .i64 x.sum, .int .i64 x.load] hQ_pq.out _ Tryz.underlying88 rfl Policy.size ?_))); go_simp; go_big_quiet_on) | go_big_quiet_step ((go_at_call 154; exact past_call (impl_durationOf_any b A n cap x.pol _ (HT.out.at_past _) HPO.out))))
    refine wpQuiet_nil ?_
    rintro _ ⟨y, rfl⟩
    have hb := y.2
    replace HB := Lib.hid (below_all HB.out hb)
    replace HT := Lib.hid (HT.out.past hb)
    replace HH := Lib.hid (HH.out.past hb)
    clear hb
    clear hQ_bx
    go_wp2
    go_ret
    exact ⟨by rw [Q.out]; first | rfl | (congr 2; simp only [beq_iff_eq, decide_eq_decide]) | simp [beq_eq_decide] | rfl, HB.out⟩
  · skip
    have hk2 : decide (2 ≤ x.kind) = false := by simpa using hk
    have hk3 : ¬ 2 ≤ x.kind := hk
    have Q := Lib.hid (show matB b x = false by simp [matB, hk])
    clear hk
    go_enter Tryz.func115, Tryz.ntmps115
    go_upto_region 1 with fail
    generalize ((w.alloc (.cells #[.int .i64 x.kind, .int .i64 x.age, .int .i64 x.years, .int .i64 x.sum, .int .i64 x.load, .int .i64 x.year, .int .i64 x.count] 90)).alloc (.cells #[.int .i64 b.first, .slice A n cap, .int .i64 b.rate] 28)) = v0 at HB HH HT ⊢
    generalize w.heap.size + 1 = g0_1 at HH ⊢
    generalize w.heap.size = g0_0 at HH ⊢
    have d0 := fun y : Past v0 => Past.cell (p := ⟨g0_0, 0, none⟩) (v := .int .i64 x.kind) (Rd.bcell (HH.out.get 1 rfl) 0 rfl) y
    have d1 := fun y : Past v0 => Past.cell (p := ⟨g0_0, 1, none⟩) (v := .int .i64 x.age) (Rd.bcell (HH.out.get 1 rfl) 1 rfl) y
    have d2 := fun y : Past v0 => Past.cell (p := ⟨g0_0, 2, none⟩) (v := .int .i64 x.years) (Rd.bcell (HH.out.get 1 rfl) 2 rfl) y
    have d3 := fun y : Past v0 => Past.cell (p := ⟨g0_0, 3, none⟩) (v := .int .i64 x.sum) (Rd.bcell (HH.out.get 1 rfl) 3 rfl) y
    have d4 := fun y : Past v0 => Past.cell (p := ⟨g0_0, 4, none⟩) (v := .int .i64 x.load) (Rd.bcell (HH.out.get 1 rfl) 4 rfl) y
    have d5 := fun y : Past v0 => Past.cell (p := ⟨g0_0, 5, none⟩) (v := .int .i64 x.year) (Rd.bcell (HH.out.get 1 rfl) 5 rfl) y
    have d6 := fun y : Past v0 => Past.cell (p := ⟨g0_0, 6, none⟩) (v := .int .i64 x.count) (Rd.bcell (HH.out.get 1 rfl) 6 rfl) y
    go_wp2
    have hQ_pq := Lib.hid (Past.cells' (Rd.boxP (HH.out.get 1 rfl)))
    have hQ_bx := Lib.hid (Past.cells' (Rd.box (HH.out.get 0 rfl)))
    refine wp_region_past (by kernel_rfl) (by kernel_rfl) ?_
    repeat (first | (go_big_quiet_want; (first | (first | (refine quiet_load_agg 28 _ rfl ⟨g0_1, 0, none⟩ rfl [.int .i64 b.first, .slice A n cap, .int .i64 b.rate] hQ_bx.out _ Tryz.underlying28 rfl Bas.size ?_) | (refine quiet_load_agg 88 _ rfl ⟨g0_0, 0, none⟩ rfl [.int .i64 x.kind, .int .i64 x.age, .int .i64 x.years, .int .i64 x.sum, .int .i64 x.load] hQ_pq.out _ Tryz.underlying88 rfl Policy.size ?_))); go_simp; go_big_quiet_on) | go_big_quiet_step (fail))
    refine wpQuiet_nil ?_
    rintro _ ⟨y, rfl⟩
    have hb := y.2
    replace HB := Lib.hid (below_all HB.out hb)
    replace HT := Lib.hid (HT.out.past hb)
    replace HH := Lib.hid (HH.out.past hb)
    clear hb
    clear hQ_bx
    go_wp2
    go_ret
    exact ⟨by rw [Q.out]; rfl, HB.out⟩
set_option maxRecDepth 20000 in
set_option maxHeartbeats 8000000 in
theorem spec_l17Last_any (b : Bas) (A : Option Addr) (n cap : Nat) (x : Holding) (w : World) (hB : BasT w A n cap b) (hh : holdB b x = true) :
    Calls Tryz.prog 116 #[.agg #[.int .i64 b.first, .slice A n cap, .int .i64 b.rate], .agg x.row.toArray] w fun e w' => e = .returned (.bool (x.year == durP b x.pol - 1)) ∧ Below w.heap.size w w' := by
  unfold Holding.row
  have HB := Lib.hid (Below.refl w.heap.size w)
  have HH := Lib.hid (Held.nil w)
  have HT := Lib.hid hB; clear hB
  obtain ⟨hb, hr0, hr1⟩ := box2 (w := w) (tx := 28) (ty := 90) (X := [.int .i64 b.first, .slice A n cap, .int .i64 b.rate]) (Y := [.int .i64 x.kind, .int .i64 x.age, .int .i64 x.years, .int .i64 x.sum, .int .i64 x.load, .int .i64 x.year, .int .i64 x.count])
  replace HB := Lib.hid (below_all HB.out hb)
  replace HT := Lib.hid (HT.out.past hb)
  replace HH := Lib.hid (((HH.out.past hb).cons hr0).cons hr1)
  clear hb hr0 hr1
  have HPO := Lib.hid (pol_ok (hold_pol hh)); clear hh
  have hd1 := dur_low HPO.out
  have hd2 := dur_bound HPO.out
  go_enter Tryz.func116, Tryz.ntmps116
  go_upto_region 1 with fail
  generalize ((w.alloc (.cells #[.int .i64 b.first, .slice A n cap, .int .i64 b.rate] 28)).alloc (.cells #[.int .i64 x.kind, .int .i64 x.age, .int .i64 x.years, .int .i64 x.sum, .int .i64 x.load, .int .i64 x.year, .int .i64 x.count] 90)) = v0 at HB HH HT ⊢
  generalize w.heap.size + 1 = g0_1 at HH ⊢
  generalize w.heap.size = g0_0 at HH ⊢
  have d0 := fun y : Past v0 => Past.cell (p := ⟨g0_1, 0, none⟩) (v := .int .i64 x.kind) (Rd.bcell (HH.out.get 0 rfl) 0 rfl) y
  have d1 := fun y : Past v0 => Past.cell (p := ⟨g0_1, 1, none⟩) (v := .int .i64 x.age) (Rd.bcell (HH.out.get 0 rfl) 1 rfl) y
  have d2 := fun y : Past v0 => Past.cell (p := ⟨g0_1, 2, none⟩) (v := .int .i64 x.years) (Rd.bcell (HH.out.get 0 rfl) 2 rfl) y
  have d3 := fun y : Past v0 => Past.cell (p := ⟨g0_1, 3, none⟩) (v := .int .i64 x.sum) (Rd.bcell (HH.out.get 0 rfl) 3 rfl) y
  have d4 := fun y : Past v0 => Past.cell (p := ⟨g0_1, 4, none⟩) (v := .int .i64 x.load) (Rd.bcell (HH.out.get 0 rfl) 4 rfl) y
  have d5 := fun y : Past v0 => Past.cell (p := ⟨g0_1, 5, none⟩) (v := .int .i64 x.year) (Rd.bcell (HH.out.get 0 rfl) 5 rfl) y
  have d6 := fun y : Past v0 => Past.cell (p := ⟨g0_1, 6, none⟩) (v := .int .i64 x.count) (Rd.bcell (HH.out.get 0 rfl) 6 rfl) y
  go_wp2
  have hQ_pq := Lib.hid (Past.cells' (Rd.boxP (HH.out.get 0 rfl)))
  have hQ_bx := Lib.hid (Past.cells' (Rd.box (HH.out.get 1 rfl)))
  refine wp_region_past (by kernel_rfl) (by kernel_rfl) ?_
  repeat (first | (go_big_quiet_want; (first | (first | (refine quiet_load_agg 28 _ rfl ⟨g0_0, 0, none⟩ rfl [.int .i64 b.first, .slice A n cap, .int .i64 b.rate] hQ_bx.out _ Tryz.underlying28 rfl Bas.size ?_) | (refine quiet_load_agg 88 _ rfl ⟨g0_1, 0, none⟩ rfl [.int .i64 x.kind, .int .i64 x.age, .int .i64 x.years, .int .i64 x.sum, .int .i64 x.load] hQ_pq.out _ Tryz.underlying88 rfl Policy.size ?_))); go_simp; go_big_quiet_on) | go_big_quiet_step ((go_at_call 136; exact past_call (spec_l10Duration_any b A n cap x.pol _ (HT.out.at_past _) HPO.out))))
  refine wpQuiet_nil ?_
  rintro _ ⟨y, rfl⟩
  have hb := y.2
  replace HB := Lib.hid (below_all HB.out hb)
  replace HT := Lib.hid (HT.out.past hb)
  replace HH := Lib.hid (HH.out.past hb)
  clear hb
  clear hQ_bx
  go_wp2
  go_ret
  exact ⟨rfl, HB.out⟩
end Go.Proofs.YtbjdbpdgacfcpaaGreat
end

/- Expected claims: the program (printed by val.py). -/
section
namespace Go.Proofs.YtbjdbpdgacfcpaaGreat
open Go.RowKit Go.BigFrame

set_option maxRecDepth 20000 in
set_option maxHeartbeats 8000000 in
theorem impl_ExpectedClaims_any (b : Bas) (A : Option Addr) (n cap : Nat) (H : Option Addr) (m hcap : Nat) (xs : List Holding) (w : World) (hB : BasT w A n cap b) (hl : xs.length = m) (hm : m ≤ 1048576) (hX : Rd w w.heap.size H 7 (holdingRows xs)) (hf : ∀ x ∈ xs, x.fits) :
    Calls Tryz.prog 42 #[.agg #[.int .i64 b.first, .slice A n cap, .int .i64 b.rate], .slice H m hcap] w fun e w' => e = .returned (.tuple #[.int .i64 (claimsP b xs).1, .int .i64 (claimsP b xs).2]) ∧ Below w.heap.size w w' := by
  have HF := Lib.hid hf; clear hf
  have HL := Lib.hid hl; clear hl
  have HB := Lib.hid (Below.refl w.heap.size w)
  have HH := Lib.hid ((Held.nil w).cons hX); clear hX
  have HT := Lib.hid hB; clear hB
  obtain ⟨hb, hr0⟩ := box1 (w := w) (tx := 28) (X := [.int .i64 b.first, .slice A n cap, .int .i64 b.rate])
  replace HB := Lib.hid (below_all HB.out hb)
  replace HT := Lib.hid (HT.out.past hb)
  replace HH := Lib.hid ((HH.out.past hb).cons hr0)
  clear hb hr0
  cases hp : portB b xs
  · skip
    have Q := Lib.hid (show claimsP b xs = (0, 1) by simp [claimsP, hp])
    go_enter Tryz.func42, Tryz.ntmps42
    have HL_bx := Lib.hid (Rd.box (HH.out.get 0 rfl))
    go_wp2_with (refine wpList_load_agg rfl 28 _ rfl ⟨w.heap.size, 0, none⟩ rfl [.int .i64 b.first, .slice A n cap, .int .i64 b.rate] HL_bx.out _ Tryz.underlying28 rfl Bas.size ?_)
    clear HL_bx
    generalize (w.alloc (.cells #[.int .i64 b.first, .slice A n cap, .int .i64 b.rate] 28)) = v0 at HB HH HT ⊢
    generalize w.heap.size = g0_0 at HH ⊢
    refine (impl_IsPortfolio_any b A n cap H m hcap xs _ HT.out HL.out hm (HH.out.get 1 rfl) HF.out).mono ?_
    rw [hp]
    rintro e w1 ⟨rfl, hb⟩
    replace HB := Lib.hid (below_all HB.out hb)
    replace HT := Lib.hid (HT.out.past hb)
    replace HH := Lib.hid (HH.out.past hb)
    clear hb
    go_wp2
    go_ret2
    exact ⟨by rw [Q.out]; rfl, HB.out⟩
  · skip
    have Q := Lib.hid (show claimsP b xs = ((claimL b xs).sum, 0) by simp [claimsP, hp])
    obtain ⟨h30, hh⟩ := port_hold hp
    have HS := Lib.hid (claimL_sums h30 hh)
    have HHO := Lib.hid hh; clear hh
    have hm30 : m ≤ 30 := by have := HL.out; omega
    clear h30
    go_enter Tryz.func42, Tryz.ntmps42
    have HL_bx := Lib.hid (Rd.box (HH.out.get 0 rfl))
    go_wp2_with (refine wpList_load_agg rfl 28 _ rfl ⟨w.heap.size, 0, none⟩ rfl [.int .i64 b.first, .slice A n cap, .int .i64 b.rate] HL_bx.out _ Tryz.underlying28 rfl Bas.size ?_)
    clear HL_bx
    generalize (w.alloc (.cells #[.int .i64 b.first, .slice A n cap, .int .i64 b.rate] 28)) = v0 at HB HH HT ⊢
    generalize w.heap.size = g0_0 at HH ⊢
    refine (impl_IsPortfolio_any b A n cap H m hcap xs _ HT.out HL.out hm (HH.out.get 1 rfl) HF.out).mono ?_
    rw [hp]
    rintro e w1 ⟨rfl, hb⟩
    replace HB := Lib.hid (below_all HB.out hb)
    replace HT := Lib.hid (HT.out.past hb)
    replace HH := Lib.hid (HH.out.past hb)
    clear hb
    have HH1 := HH
    have HT1 := HT
    have HB1 := HB
    go_wp2
    go_loopw [6, 16] (fun s i wr => ∃ k : Nat, k ≤ m ∧ i = .int .i64 k ∧ s = .int .i64 ((claimL b xs).take k).sum ∧ Below w1.heap.size w1 wr) (fun _ i _ => m - (intOf i).toNat)
    case atStart => exact ⟨0, by omega, rfl, rfl, Below.refl _ _⟩
    case round =>
      clear HB HH HT
      obtain ⟨k, hk, rfl, rfl, hb⟩ := hrel
      have HW := Lib.hid hb
      have HH := Lib.hid (HH1.out.past hb)
      have HT := Lib.hid (HT1.out.past hb)
      have HB := Lib.hid (HB1.out.trans (hb.mono HB1.out.size))
      clear hb
      by_cases hlt : k < m
      · obtain ⟨x, hx⟩ := get_of_lt (xs := xs) (k := k) (by rw [HL.out]; exact hlt)
        obtain ⟨ad, rfl, had, _, hc⟩ := ((HH.out.get 1 rfl)).at' (holdingRows_get hx)
        have HE := Lib.hid (sum_snoc (claimL_get (b := b) hx))
        have Hx := Lib.hid (HHO.out x (List.mem_of_getElem? hx)); clear hx
        have Hc := Lib.hid hc; clear hc
        have hbd := HS.out (k + 1)
        rw [HE.out] at hbd
        obtain ⟨b1, b2⟩ := hbd
        have hbs := HS.out k
        obtain ⟨b3, b4⟩ := hbs
        have CK := Lib.hid (claim_ok Hx.out)
        have c1 := CK.out.cs0; have c2 := CK.out.cs1
        unfold csP at c1 c2
        have hki : (k : Int) < (m : Int) := by omega
        have hk63 : (k : Int) < 1048576 := by omega
        obtain ⟨hb, hr0⟩ := box1 (w := wr) (tx := 90) (X := [.int .i64 x.kind, .int .i64 x.age, .int .i64 x.years, .int .i64 x.sum, .int .i64 x.load, .int .i64 x.year, .int .i64 x.count])
        replace HB := Lib.hid (below_all HB.out hb)
        replace HT := Lib.hid (HT.out.past hb)
        replace HH := Lib.hid ((HH.out.past hb).cons hr0)
        clear hb hr0
        have hba : Below wr.heap.size wr (wr.alloc (.cells #[.int .i64 x.kind, .int .i64 x.age, .int .i64 x.years, .int .i64 x.sum, .int .i64 x.load, .int .i64 x.year, .int .i64 x.count] 90)) := (Below.refl _ wr).alloc (Nat.le_refl _) _
        replace HW := Lib.hid (HW.out.trans (hba.mono HW.out.size)); clear hba
        have a0 := CK.out.age0; have a1 := CK.out.age1; have a2 := (pol_ok (hold_pol Hx.out)).tab.first0; have a3 := (pol_ok (hold_pol Hx.out)).tab.first1
        have HTab := Lib.hid (pol_ok (hold_pol Hx.out)).tab
        have l0 := CK.out.l0; have l1 := CK.out.l1; have e0 := CK.out.d0; have e1 := CK.out.d1; have q0 := CK.out.q0; have q1 := CK.out.q1; have u0 := CK.out.v0; have u1 := CK.out.v1
        have hag : -1000 ≤ x.age ∧ x.age ≤ 1000 := ⟨by have := (pol_ok (hold_pol Hx.out)).age0; have h2 : b.first ≤ x.age := this; omega, by have := (pol_ok (hold_pol Hx.out)).age1; have h2 : x.age ≤ 150 := this; omega⟩
        obtain ⟨g0, g1⟩ := hag
        have hyr : -2000 ≤ x.year ∧ x.year ≤ 2000 := by omega
        obtain ⟨y0, y1⟩ := hyr
        by_cases hk3 : x.kind = 3
        · skip
          have hv : claimV b x = 0 := if_pos hk3
          rw [hv] at HE
          have hkb : (x.kind != 3) = false := by simp [hk3]
          clear hk3 hv
          go_upto_region 7 with (refine wpList_load_agg rfl 90 _ rfl (ad.add (k * 7)) rfl [.int .i64 x.kind, .int .i64 x.age, .int .i64 x.years, .int .i64 x.sum, .int .i64 x.load, .int .i64 x.year, .int .i64 x.count] Hc.out _ Tryz.underlying90 rfl Holding.size ?_)
          generalize (wr.alloc (.cells #[.int .i64 x.kind, .int .i64 x.age, .int .i64 x.years, .int .i64 x.sum, .int .i64 x.load, .int .i64 x.year, .int .i64 x.count] 90)) = v1 at HB HH HT HW ⊢
          generalize wr.heap.size = g1_0 at HH ⊢
          have p0 : v1.cell? ⟨g1_0, 0, none⟩ = some (.int .i64 x.kind) := Rd.bcell (HH.out.get 0 rfl) 0 rfl
          have p1 : v1.cell? ⟨g1_0, 1, none⟩ = some (.int .i64 x.age) := Rd.bcell (HH.out.get 0 rfl) 1 rfl
          have p2 : v1.cell? ⟨g1_0, 2, none⟩ = some (.int .i64 x.years) := Rd.bcell (HH.out.get 0 rfl) 2 rfl
          have p3 : v1.cell? ⟨g1_0, 3, none⟩ = some (.int .i64 x.sum) := Rd.bcell (HH.out.get 0 rfl) 3 rfl
          have p4 : v1.cell? ⟨g1_0, 4, none⟩ = some (.int .i64 x.load) := Rd.bcell (HH.out.get 0 rfl) 4 rfl
          have p5 : v1.cell? ⟨g1_0, 5, none⟩ = some (.int .i64 x.year) := Rd.bcell (HH.out.get 0 rfl) 5 rfl
          have p6 : v1.cell? ⟨g1_0, 6, none⟩ = some (.int .i64 x.count) := Rd.bcell (HH.out.get 0 rfl) 6 rfl
          go_wp2
          go_roundw
          case rel => exact ⟨k + 1, by omega, by go_num, by rw [HE.out]; (first | done | rw [Int.add_zero]), HW.out⟩
          case measure => simp [intOf]; omega
        · skip
          have HV := Lib.hid (show claimV b x = upP (x.count * x.sum) (dieAt b x) (livAt b x) from if_neg hk3)
          rw [HV.out] at HE b1 b2
          have hkb : (x.kind != 3) = true := by simp [hk3]
          clear hk3
          go_upto_region 7 with (refine wpList_load_agg rfl 90 _ rfl (ad.add (k * 7)) rfl [.int .i64 x.kind, .int .i64 x.age, .int .i64 x.years, .int .i64 x.sum, .int .i64 x.load, .int .i64 x.year, .int .i64 x.count] Hc.out _ Tryz.underlying90 rfl Holding.size ?_)
          generalize (wr.alloc (.cells #[.int .i64 x.kind, .int .i64 x.age, .int .i64 x.years, .int .i64 x.sum, .int .i64 x.load, .int .i64 x.year, .int .i64 x.count] 90)) = v1 at HB HH HT HW ⊢
          generalize wr.heap.size = g1_0 at HH ⊢
          have p0 : v1.cell? ⟨g1_0, 0, none⟩ = some (.int .i64 x.kind) := Rd.bcell (HH.out.get 0 rfl) 0 rfl
          have p1 : v1.cell? ⟨g1_0, 1, none⟩ = some (.int .i64 x.age) := Rd.bcell (HH.out.get 0 rfl) 1 rfl
          have p2 : v1.cell? ⟨g1_0, 2, none⟩ = some (.int .i64 x.years) := Rd.bcell (HH.out.get 0 rfl) 2 rfl
          have p3 : v1.cell? ⟨g1_0, 3, none⟩ = some (.int .i64 x.sum) := Rd.bcell (HH.out.get 0 rfl) 3 rfl
          have p4 : v1.cell? ⟨g1_0, 4, none⟩ = some (.int .i64 x.load) := Rd.bcell (HH.out.get 0 rfl) 4 rfl
          have p5 : v1.cell? ⟨g1_0, 5, none⟩ = some (.int .i64 x.year) := Rd.bcell (HH.out.get 0 rfl) 5 rfl
          have p6 : v1.cell? ⟨g1_0, 6, none⟩ = some (.int .i64 x.count) := Rd.bcell (HH.out.get 0 rfl) 6 rfl
          have d0 := fun y : Past v1 => Past.cell (p := ⟨g1_0, 0, none⟩) (v := .int .i64 x.kind) (Rd.bcell (HH.out.get 0 rfl) 0 rfl) y
          have d1 := fun y : Past v1 => Past.cell (p := ⟨g1_0, 1, none⟩) (v := .int .i64 x.age) (Rd.bcell (HH.out.get 0 rfl) 1 rfl) y
          have d2 := fun y : Past v1 => Past.cell (p := ⟨g1_0, 2, none⟩) (v := .int .i64 x.years) (Rd.bcell (HH.out.get 0 rfl) 2 rfl) y
          have d3 := fun y : Past v1 => Past.cell (p := ⟨g1_0, 3, none⟩) (v := .int .i64 x.sum) (Rd.bcell (HH.out.get 0 rfl) 3 rfl) y
          have d4 := fun y : Past v1 => Past.cell (p := ⟨g1_0, 4, none⟩) (v := .int .i64 x.load) (Rd.bcell (HH.out.get 0 rfl) 4 rfl) y
          have d5 := fun y : Past v1 => Past.cell (p := ⟨g1_0, 5, none⟩) (v := .int .i64 x.year) (Rd.bcell (HH.out.get 0 rfl) 5 rfl) y
          have d6 := fun y : Past v1 => Past.cell (p := ⟨g1_0, 6, none⟩) (v := .int .i64 x.count) (Rd.bcell (HH.out.get 0 rfl) 6 rfl) y
          have HD := Lib.hid (show lv b.lives (x.age + x.year - b.first).toNat - lv b.lives ((x.age + x.year - b.first).toNat + 1) = dieAt b x from rfl)
          have HLV := Lib.hid (show lv b.lives (x.age + x.year - b.first).toNat = livAt b x from rfl)
          go_wp2
          clear p0 p1 p2 p3 p4 p5 p6
          unfold csP at q0 q1 u0 u1
          have hQ_tx := Lib.hid (Past.cells' (Rd.boxT (HH.out.get 1 rfl)))
          refine wp_region_past (by kernel_rfl) (by kernel_rfl) ?_
          repeat (first | (go_big_quiet_want; (first | (refine quiet_load_agg 26 _ rfl ⟨g0_0, 0, none⟩ rfl [.int .i64 b.first, .slice A n cap] hQ_tx.out _ Tryz.underlying26 rfl Tab.size ?_)); go_simp; go_big_quiet_on) | go_big_quiet_step ((first | (go_at_call 111; exact past_call ((impl_LifeTable_deaths_any b.first A n cap b.lives (x.age + x.year) _ (HT.out.at_past _).lives HTab.out ⟨by omega, by omega⟩).mono (by rw [HD.out]; exact fun _ _ h => h))) | (go_at_call 112; exact past_call ((impl_LifeTable_lives_any b.first A n cap b.lives (x.age + x.year) _ (HT.out.at_past _).lives HTab.out ⟨by omega, by omega⟩).mono (by rw [HLV.out]; exact fun _ _ h => h))) | (go_at_call 110; exact past_call (impl_priced_any (x.count * x.sum) (dieAt b x) (livAt b x) _ ⟨by omega, by omega⟩ ⟨by omega, by omega⟩ ⟨by omega, by omega⟩ (by omega))))))
          refine wpQuiet_nil ?_
          rintro _ ⟨y, rfl⟩
          have hb := y.2
          replace HW := Lib.hid (HW.out.trans (hb.mono HW.out.size))
          replace HB := Lib.hid (below_all HB.out hb)
          replace HT := Lib.hid (HT.out.past hb)
          replace HH := Lib.hid (HH.out.past hb)
          clear hb
          clear hQ_tx
          go_wp2
          go_roundw
          case rel => exact ⟨k + 1, by omega, by go_num, by rw [HE.out]; (first | done | rw [Int.add_zero]), HW.out⟩
          case measure => simp [intOf]; omega
      · have hkn : k = m := by omega
        subst hkn
        go_wp2
        go_ret2
        exact ⟨by rw [Q.out, take_all (by rw [claimL, List.length_map]; exact HL.out)]; rfl, HB.out⟩
end Go.Proofs.YtbjdbpdgacfcpaaGreat
end

/- Expected claims: the reference (printed by val.py). -/
section
namespace Go.Proofs.YtbjdbpdgacfcpaaGreat
open Go.RowKit Go.BigFrame

set_option maxRecDepth 20000 in
set_option maxHeartbeats 8000000 in
theorem spec_ExpectedClaims_any (b : Bas) (A : Option Addr) (n cap : Nat) (H : Option Addr) (m hcap : Nat) (xs : List Holding) (w : World) (hB : BasT w A n cap b) (hl : xs.length = m) (hm : m ≤ 1048576) (hX : Rd w w.heap.size H 7 (holdingRows xs)) (hf : ∀ x ∈ xs, x.fits) :
    Calls Tryz.prog 43 #[.agg #[.int .i64 b.first, .slice A n cap, .int .i64 b.rate], .slice H m hcap] w fun e w' => e = .returned (.tuple #[.int .i64 (claimsP b xs).1, .int .i64 (claimsP b xs).2]) ∧ Below w.heap.size w w' := by
  have HF := Lib.hid hf; clear hf
  have HL := Lib.hid hl; clear hl
  have HB := Lib.hid (Below.refl w.heap.size w)
  have HH := Lib.hid ((Held.nil w).cons hX); clear hX
  have HT := Lib.hid hB; clear hB
  obtain ⟨hb, hr0⟩ := box1 (w := w) (tx := 28) (X := [.int .i64 b.first, .slice A n cap, .int .i64 b.rate])
  replace HB := Lib.hid (below_all HB.out hb)
  replace HT := Lib.hid (HT.out.past hb)
  replace HH := Lib.hid ((HH.out.past hb).cons hr0)
  clear hb hr0
  cases hp : portB b xs
  · skip
    have Q := Lib.hid (show claimsP b xs = (0, 1) by simp [claimsP, hp])
    go_enter Tryz.func43, Tryz.ntmps43
    have HL_bx := Lib.hid (Rd.box (HH.out.get 0 rfl))
    go_wp2_with (refine wpList_load_agg rfl 28 _ rfl ⟨w.heap.size, 0, none⟩ rfl [.int .i64 b.first, .slice A n cap, .int .i64 b.rate] HL_bx.out _ Tryz.underlying28 rfl Bas.size ?_)
    clear HL_bx
    generalize (w.alloc (.cells #[.int .i64 b.first, .slice A n cap, .int .i64 b.rate] 28)) = v0 at HB HH HT ⊢
    generalize w.heap.size = g0_0 at HH ⊢
    refine (spec_IsPortfolio_any b A n cap H m hcap xs _ HT.out HL.out hm (HH.out.get 1 rfl) HF.out).mono ?_
    rw [hp]
    rintro e w1 ⟨rfl, hb⟩
    replace HB := Lib.hid (below_all HB.out hb)
    replace HT := Lib.hid (HT.out.past hb)
    replace HH := Lib.hid (HH.out.past hb)
    clear hb
    go_wp2
    go_ret2
    exact ⟨by rw [Q.out]; rfl, HB.out⟩
  · skip
    have Q := Lib.hid (show claimsP b xs = ((claimL b xs).sum, 0) by simp [claimsP, hp])
    obtain ⟨h30, hh⟩ := port_hold hp
    have HS := Lib.hid (claimL_sums h30 hh)
    have HHO := Lib.hid hh; clear hh
    have hm30 : m ≤ 30 := by have := HL.out; omega
    clear h30
    go_enter Tryz.func43, Tryz.ntmps43
    have HL_bx := Lib.hid (Rd.box (HH.out.get 0 rfl))
    go_wp2_with (refine wpList_load_agg rfl 28 _ rfl ⟨w.heap.size, 0, none⟩ rfl [.int .i64 b.first, .slice A n cap, .int .i64 b.rate] HL_bx.out _ Tryz.underlying28 rfl Bas.size ?_)
    clear HL_bx
    generalize (w.alloc (.cells #[.int .i64 b.first, .slice A n cap, .int .i64 b.rate] 28)) = v0 at HB HH HT ⊢
    generalize w.heap.size = g0_0 at HH ⊢
    refine (spec_IsPortfolio_any b A n cap H m hcap xs _ HT.out HL.out hm (HH.out.get 1 rfl) HF.out).mono ?_
    rw [hp]
    rintro e w1 ⟨rfl, hb⟩
    replace HB := Lib.hid (below_all HB.out hb)
    replace HT := Lib.hid (HT.out.past hb)
    replace HH := Lib.hid (HH.out.past hb)
    clear hb
    have HH1 := HH
    have HT1 := HT
    have HB1 := HB
    go_wp2
    go_loopw [6, 7] (fun s i wr => ∃ k : Nat, k ≤ m ∧ i = .int .i64 k ∧ s = .int .i64 ((claimL b xs).take k).sum ∧ Below w1.heap.size w1 wr) (fun _ i _ => m - (intOf i).toNat)
    case atStart => exact ⟨0, by omega, rfl, rfl, Below.refl _ _⟩
    case round =>
      clear HB HH HT
      obtain ⟨k, hk, rfl, rfl, hb⟩ := hrel
      have HW := Lib.hid hb
      have HH := Lib.hid (HH1.out.past hb)
      have HT := Lib.hid (HT1.out.past hb)
      have HB := Lib.hid (HB1.out.trans (hb.mono HB1.out.size))
      clear hb
      by_cases hlt : k < m
      · obtain ⟨x, hx⟩ := get_of_lt (xs := xs) (k := k) (by rw [HL.out]; exact hlt)
        obtain ⟨ad, rfl, had, _, hc⟩ := ((HH.out.get 1 rfl)).at' (holdingRows_get hx)
        have HE := Lib.hid (sum_snoc (claimL_get (b := b) hx))
        have Hx := Lib.hid (HHO.out x (List.mem_of_getElem? hx)); clear hx
        have Hc := Lib.hid hc; clear hc
        have hbd := HS.out (k + 1)
        rw [HE.out] at hbd
        obtain ⟨b1, b2⟩ := hbd
        have hbs := HS.out k
        obtain ⟨b3, b4⟩ := hbs
        have CK := Lib.hid (claim_ok Hx.out)
        have c1 := CK.out.cs0; have c2 := CK.out.cs1
        unfold csP at c1 c2
        have hki : (k : Int) < (m : Int) := by omega
        have hk63 : (k : Int) < 1048576 := by omega
        obtain ⟨hb, hr0⟩ := box1 (w := wr) (tx := 90) (X := [.int .i64 x.kind, .int .i64 x.age, .int .i64 x.years, .int .i64 x.sum, .int .i64 x.load, .int .i64 x.year, .int .i64 x.count])
        replace HB := Lib.hid (below_all HB.out hb)
        replace HT := Lib.hid (HT.out.past hb)
        replace HH := Lib.hid ((HH.out.past hb).cons hr0)
        clear hb hr0
        have hba : Below wr.heap.size wr (wr.alloc (.cells #[.int .i64 x.kind, .int .i64 x.age, .int .i64 x.years, .int .i64 x.sum, .int .i64 x.load, .int .i64 x.year, .int .i64 x.count] 90)) := (Below.refl _ wr).alloc (Nat.le_refl _) _
        replace HW := Lib.hid (HW.out.trans (hba.mono HW.out.size)); clear hba
        have a0 := CK.out.age0; have a1 := CK.out.age1; have a2 := (pol_ok (hold_pol Hx.out)).tab.first0; have a3 := (pol_ok (hold_pol Hx.out)).tab.first1
        have HTab := Lib.hid (pol_ok (hold_pol Hx.out)).tab
        have l0 := CK.out.l0; have l1 := CK.out.l1; have e0 := CK.out.d0; have e1 := CK.out.d1; have q0 := CK.out.q0; have q1 := CK.out.q1; have u0 := CK.out.v0; have u1 := CK.out.v1
        have hag : -1000 ≤ x.age ∧ x.age ≤ 1000 := ⟨by have := (pol_ok (hold_pol Hx.out)).age0; have h2 : b.first ≤ x.age := this; omega, by have := (pol_ok (hold_pol Hx.out)).age1; have h2 : x.age ≤ 150 := this; omega⟩
        obtain ⟨g0, g1⟩ := hag
        have hyr : -2000 ≤ x.year ∧ x.year ≤ 2000 := by omega
        obtain ⟨y0, y1⟩ := hyr
        by_cases hk3 : x.kind = 3
        · skip
          have hv : claimV b x = 0 := if_pos hk3
          rw [hv] at HE
          have hkb : (x.kind != 3) = false := by simp [hk3]
          clear hk3 hv
          go_upto_region 8 with (refine wpList_load_agg rfl 90 _ rfl (ad.add (k * 7)) rfl [.int .i64 x.kind, .int .i64 x.age, .int .i64 x.years, .int .i64 x.sum, .int .i64 x.load, .int .i64 x.year, .int .i64 x.count] Hc.out _ Tryz.underlying90 rfl Holding.size ?_)
          generalize (wr.alloc (.cells #[.int .i64 x.kind, .int .i64 x.age, .int .i64 x.years, .int .i64 x.sum, .int .i64 x.load, .int .i64 x.year, .int .i64 x.count] 90)) = v1 at HB HH HT HW ⊢
          generalize wr.heap.size = g1_0 at HH ⊢
          have p0 : v1.cell? ⟨g1_0, 0, none⟩ = some (.int .i64 x.kind) := Rd.bcell (HH.out.get 0 rfl) 0 rfl
          have p1 : v1.cell? ⟨g1_0, 1, none⟩ = some (.int .i64 x.age) := Rd.bcell (HH.out.get 0 rfl) 1 rfl
          have p2 : v1.cell? ⟨g1_0, 2, none⟩ = some (.int .i64 x.years) := Rd.bcell (HH.out.get 0 rfl) 2 rfl
          have p3 : v1.cell? ⟨g1_0, 3, none⟩ = some (.int .i64 x.sum) := Rd.bcell (HH.out.get 0 rfl) 3 rfl
          have p4 : v1.cell? ⟨g1_0, 4, none⟩ = some (.int .i64 x.load) := Rd.bcell (HH.out.get 0 rfl) 4 rfl
          have p5 : v1.cell? ⟨g1_0, 5, none⟩ = some (.int .i64 x.year) := Rd.bcell (HH.out.get 0 rfl) 5 rfl
          have p6 : v1.cell? ⟨g1_0, 6, none⟩ = some (.int .i64 x.count) := Rd.bcell (HH.out.get 0 rfl) 6 rfl
          have HL_tx := Lib.hid (Rd.boxT (HH.out.get 1 rfl))
          go_wp2_with (refine wpList_load_agg rfl 26 _ rfl ⟨g0_0, 0, none⟩ rfl [.int .i64 b.first, .slice A n cap] HL_tx.out _ Tryz.underlying26 rfl Tab.size ?_)
          clear HL_tx
          clear p0 p1 p2 p3 p4 p5 p6
          refine (spec_l03Lives_any b.first A n cap b.lives (x.age + x.year) _ HT.out.lives ⟨a2, a3⟩ ⟨by omega, by omega⟩).mono ?_
          rintro e w2 ⟨rfl, hb⟩
          replace HW := Lib.hid (HW.out.trans (hb.mono HW.out.size))
          replace HB := Lib.hid (below_all HB.out hb)
          replace HT := Lib.hid (HT.out.past hb)
          replace HH := Lib.hid (HH.out.past hb)
          clear hb
          have p0 : w2.cell? ⟨g1_0, 0, none⟩ = some (.int .i64 x.kind) := Rd.bcell (HH.out.get 0 rfl) 0 rfl
          have p1 : w2.cell? ⟨g1_0, 1, none⟩ = some (.int .i64 x.age) := Rd.bcell (HH.out.get 0 rfl) 1 rfl
          have p2 : w2.cell? ⟨g1_0, 2, none⟩ = some (.int .i64 x.years) := Rd.bcell (HH.out.get 0 rfl) 2 rfl
          have p3 : w2.cell? ⟨g1_0, 3, none⟩ = some (.int .i64 x.sum) := Rd.bcell (HH.out.get 0 rfl) 3 rfl
          have p4 : w2.cell? ⟨g1_0, 4, none⟩ = some (.int .i64 x.load) := Rd.bcell (HH.out.get 0 rfl) 4 rfl
          have p5 : w2.cell? ⟨g1_0, 5, none⟩ = some (.int .i64 x.year) := Rd.bcell (HH.out.get 0 rfl) 5 rfl
          have p6 : w2.cell? ⟨g1_0, 6, none⟩ = some (.int .i64 x.count) := Rd.bcell (HH.out.get 0 rfl) 6 rfl
          go_wp2
          go_roundw
          case rel => exact ⟨k + 1, by omega, by go_num, by rw [HE.out]; (first | done | rw [Int.add_zero]), HW.out⟩
          case measure => simp [intOf]; omega
        · skip
          have HV := Lib.hid (show claimV b x = upP (x.count * x.sum) (dieAt b x) (livAt b x) from if_neg hk3)
          rw [HV.out] at HE b1 b2
          have hkb : (x.kind != 3) = true := by simp [hk3]
          clear hk3
          go_upto_region 8 with (refine wpList_load_agg rfl 90 _ rfl (ad.add (k * 7)) rfl [.int .i64 x.kind, .int .i64 x.age, .int .i64 x.years, .int .i64 x.sum, .int .i64 x.load, .int .i64 x.year, .int .i64 x.count] Hc.out _ Tryz.underlying90 rfl Holding.size ?_)
          generalize (wr.alloc (.cells #[.int .i64 x.kind, .int .i64 x.age, .int .i64 x.years, .int .i64 x.sum, .int .i64 x.load, .int .i64 x.year, .int .i64 x.count] 90)) = v1 at HB HH HT HW ⊢
          generalize wr.heap.size = g1_0 at HH ⊢
          have p0 : v1.cell? ⟨g1_0, 0, none⟩ = some (.int .i64 x.kind) := Rd.bcell (HH.out.get 0 rfl) 0 rfl
          have p1 : v1.cell? ⟨g1_0, 1, none⟩ = some (.int .i64 x.age) := Rd.bcell (HH.out.get 0 rfl) 1 rfl
          have p2 : v1.cell? ⟨g1_0, 2, none⟩ = some (.int .i64 x.years) := Rd.bcell (HH.out.get 0 rfl) 2 rfl
          have p3 : v1.cell? ⟨g1_0, 3, none⟩ = some (.int .i64 x.sum) := Rd.bcell (HH.out.get 0 rfl) 3 rfl
          have p4 : v1.cell? ⟨g1_0, 4, none⟩ = some (.int .i64 x.load) := Rd.bcell (HH.out.get 0 rfl) 4 rfl
          have p5 : v1.cell? ⟨g1_0, 5, none⟩ = some (.int .i64 x.year) := Rd.bcell (HH.out.get 0 rfl) 5 rfl
          have p6 : v1.cell? ⟨g1_0, 6, none⟩ = some (.int .i64 x.count) := Rd.bcell (HH.out.get 0 rfl) 6 rfl
          have d0 := fun y : Past v1 => Past.cell (p := ⟨g1_0, 0, none⟩) (v := .int .i64 x.kind) (Rd.bcell (HH.out.get 0 rfl) 0 rfl) y
          have d1 := fun y : Past v1 => Past.cell (p := ⟨g1_0, 1, none⟩) (v := .int .i64 x.age) (Rd.bcell (HH.out.get 0 rfl) 1 rfl) y
          have d2 := fun y : Past v1 => Past.cell (p := ⟨g1_0, 2, none⟩) (v := .int .i64 x.years) (Rd.bcell (HH.out.get 0 rfl) 2 rfl) y
          have d3 := fun y : Past v1 => Past.cell (p := ⟨g1_0, 3, none⟩) (v := .int .i64 x.sum) (Rd.bcell (HH.out.get 0 rfl) 3 rfl) y
          have d4 := fun y : Past v1 => Past.cell (p := ⟨g1_0, 4, none⟩) (v := .int .i64 x.load) (Rd.bcell (HH.out.get 0 rfl) 4 rfl) y
          have d5 := fun y : Past v1 => Past.cell (p := ⟨g1_0, 5, none⟩) (v := .int .i64 x.year) (Rd.bcell (HH.out.get 0 rfl) 5 rfl) y
          have d6 := fun y : Past v1 => Past.cell (p := ⟨g1_0, 6, none⟩) (v := .int .i64 x.count) (Rd.bcell (HH.out.get 0 rfl) 6 rfl) y
          have HLV := Lib.hid (show lv b.lives (x.age + x.year - b.first).toNat = livAt b x from rfl)
          obtain ⟨nx, hnx⟩ : ∃ nx, nx = lv b.lives (b.ix (x.age + x.year) + 1) := ⟨_, rfl⟩
          have HNX := Lib.hid (show lv b.lives (x.age + x.year + 1 - b.first).toNat = nx by rw [hnx]; unfold Bas.ix; congr 1; omega)
          have hdx : dieAt b x = livAt b x - nx := by rw [hnx]; rfl
          clear hnx
          have HUP := Lib.hid (upP_comm (livAt b x - nx) (x.count * x.sum) (livAt b x))
          unfold csP at q0 q1 u0 u1
          rw [Int.mul_comm (x.count * x.sum) (dieAt b x)] at q0 q1
          rw [hdx] at HE b1 b2 e0 e1 q0 q1 u0 u1
          clear hdx
          have HL_tx := Lib.hid (Rd.boxT (HH.out.get 1 rfl))
          go_wp2_with (refine wpList_load_agg rfl 26 _ rfl ⟨g0_0, 0, none⟩ rfl [.int .i64 b.first, .slice A n cap] HL_tx.out _ Tryz.underlying26 rfl Tab.size ?_)
          clear HL_tx
          clear p0 p1 p2 p3 p4 p5 p6
          clear d0 d1 d2 d3 d4 d5 d6
          refine (spec_l03Lives_any b.first A n cap b.lives (x.age + x.year) _ HT.out.lives ⟨a2, a3⟩ ⟨by omega, by omega⟩).mono ?_
          rw [HLV.out]
          rintro e w2 ⟨rfl, hb⟩
          replace HW := Lib.hid (HW.out.trans (hb.mono HW.out.size))
          replace HB := Lib.hid (below_all HB.out hb)
          replace HT := Lib.hid (HT.out.past hb)
          replace HH := Lib.hid (HH.out.past hb)
          clear hb
          have p0 : w2.cell? ⟨g1_0, 0, none⟩ = some (.int .i64 x.kind) := Rd.bcell (HH.out.get 0 rfl) 0 rfl
          have p1 : w2.cell? ⟨g1_0, 1, none⟩ = some (.int .i64 x.age) := Rd.bcell (HH.out.get 0 rfl) 1 rfl
          have p2 : w2.cell? ⟨g1_0, 2, none⟩ = some (.int .i64 x.years) := Rd.bcell (HH.out.get 0 rfl) 2 rfl
          have p3 : w2.cell? ⟨g1_0, 3, none⟩ = some (.int .i64 x.sum) := Rd.bcell (HH.out.get 0 rfl) 3 rfl
          have p4 : w2.cell? ⟨g1_0, 4, none⟩ = some (.int .i64 x.load) := Rd.bcell (HH.out.get 0 rfl) 4 rfl
          have p5 : w2.cell? ⟨g1_0, 5, none⟩ = some (.int .i64 x.year) := Rd.bcell (HH.out.get 0 rfl) 5 rfl
          have p6 : w2.cell? ⟨g1_0, 6, none⟩ = some (.int .i64 x.count) := Rd.bcell (HH.out.get 0 rfl) 6 rfl
          have d0 := fun y : Past w2 => Past.cell (p := ⟨g1_0, 0, none⟩) (v := .int .i64 x.kind) (Rd.bcell (HH.out.get 0 rfl) 0 rfl) y
          have d1 := fun y : Past w2 => Past.cell (p := ⟨g1_0, 1, none⟩) (v := .int .i64 x.age) (Rd.bcell (HH.out.get 0 rfl) 1 rfl) y
          have d2 := fun y : Past w2 => Past.cell (p := ⟨g1_0, 2, none⟩) (v := .int .i64 x.years) (Rd.bcell (HH.out.get 0 rfl) 2 rfl) y
          have d3 := fun y : Past w2 => Past.cell (p := ⟨g1_0, 3, none⟩) (v := .int .i64 x.sum) (Rd.bcell (HH.out.get 0 rfl) 3 rfl) y
          have d4 := fun y : Past w2 => Past.cell (p := ⟨g1_0, 4, none⟩) (v := .int .i64 x.load) (Rd.bcell (HH.out.get 0 rfl) 4 rfl) y
          have d5 := fun y : Past w2 => Past.cell (p := ⟨g1_0, 5, none⟩) (v := .int .i64 x.year) (Rd.bcell (HH.out.get 0 rfl) 5 rfl) y
          have d6 := fun y : Past w2 => Past.cell (p := ⟨g1_0, 6, none⟩) (v := .int .i64 x.count) (Rd.bcell (HH.out.get 0 rfl) 6 rfl) y
          go_wp2
          clear p0 p1 p2 p3 p4 p5 p6
          have hQ_tx := Lib.hid (Past.cells' (Rd.boxT (HH.out.get 1 rfl)))
          refine wp_region_past (by kernel_rfl) (by kernel_rfl) ?_
          repeat (first | (go_big_quiet_want; (first | (refine quiet_load_agg 26 _ rfl ⟨g0_0, 0, none⟩ rfl [.int .i64 b.first, .slice A n cap] hQ_tx.out _ Tryz.underlying26 rfl Tab.size ?_)); go_simp; go_big_quiet_on) | go_big_quiet_step ((first | (go_at_call 113; exact past_call ((spec_l03Lives_any b.first A n cap b.lives (x.age + x.year + 1) _ (HT.out.at_past _).lives ⟨a2, a3⟩ ⟨by omega, by omega⟩).mono (by rw [HNX.out]; exact fun _ _ h => h))) | (go_at_call 114; exact past_same ((spec_l05Up_any (livAt b x - nx) (x.count * x.sum) (livAt b x) _ ⟨by omega, by omega⟩ ⟨by omega, by omega⟩ ⟨by omega, by omega⟩ (by omega)).mono (by rw [HUP.out]; exact fun _ _ h => h))))))
          refine wpQuiet_nil ?_
          rintro _ ⟨y, rfl⟩
          have hb := y.2
          replace HW := Lib.hid (HW.out.trans (hb.mono HW.out.size))
          replace HB := Lib.hid (below_all HB.out hb)
          replace HT := Lib.hid (HT.out.past hb)
          replace HH := Lib.hid (HH.out.past hb)
          clear hb
          clear hQ_tx
          go_wp2
          go_roundw
          case rel => exact ⟨k + 1, by omega, by go_num, by rw [HE.out]; (first | done | rw [Int.add_zero]), HW.out⟩
          case measure => simp [intOf]; omega
      · have hkn : k = m := by omega
        subst hkn
        go_wp2
        go_ret2
        exact ⟨by rw [Q.out, take_all (by rw [claimL, List.length_map]; exact HL.out)]; rfl, HB.out⟩
end Go.Proofs.YtbjdbpdgacfcpaaGreat
end
