/- Cash that bonds and needs want, and whether they cover: the program's and the reference's contracts. -/
import Derived.Test.YtlbllonpodckgaaKept
namespace Go.Proofs.Ytlbllonpodckgaa
open Go.RowKit Go.BigFrame

def leastP (zs : List Int) : Int := zs.foldl min 0
theorem least_snoc {zs : List Int} {k : Nat} {z : Int} (hz : zs[k]? = some z) : leastP (zs.take (k + 1)) = min (leastP (zs.take k)) z := by
  rw [take_succ_snoc hz]; simp [leastP]
theorem foldl_min_bound {B : Int} : ∀ (zs : List Int) (a : Int), -B ≤ a → a ≤ 0 → (∀ z ∈ zs, -B ≤ z) → -B ≤ zs.foldl min a ∧ zs.foldl min a ≤ a
  | [], a, h1, _, _ => ⟨h1, Int.le_refl _⟩
  | z :: r, a, h1, h2, h => by
    have hz := h z (by simp)
    have := foldl_min_bound r (min a z) (by omega) (by omega) (fun y hy => h y (by simp [hy]))
    simp only [List.foldl_cons]
    omega
theorem least_bound {B : Int} {zs : List Int} (hB : 0 ≤ B) (h : ∀ z ∈ zs, -B ≤ z) : -B ≤ leastP zs ∧ leastP zs ≤ 0 := foldl_min_bound zs 0 (by omega) (by omega) h
theorem foldl_min_le : ∀ (zs : List Int) (a : Int), (zs.foldl min a ≤ a ∧ ∀ z ∈ zs, zs.foldl min a ≤ z)
  | [], a => ⟨Int.le_refl _, by simp⟩
  | z :: r, a => by
    have h := foldl_min_le r (min a z)
    simp only [List.foldl_cons]
    refine ⟨by omega, fun y hy => ?_⟩
    rcases List.mem_cons.1 hy with rfl | hy
    · omega
    · exact h.2 y hy
theorem foldl_min_zero : ∀ (zs : List Int), (∀ z ∈ zs, 0 ≤ z) → zs.foldl min 0 = 0
  | [], _ => rfl
  | z :: r, h => by
    have hz := h z (by simp)
    rw [List.foldl_cons, show min (0 : Int) z = 0 by omega]
    exact foldl_min_zero r fun y hy => h y (by simp [hy])
theorem least_any (zs : List Int) : (leastP zs == 0) = !zs.any fun z => decide (z < 0) := by
  by_cases h : zs.any (fun z => decide (z < 0)) = true
  · rw [h]
    obtain ⟨z, hz, hn⟩ := List.any_eq_true.1 h
    have h1 := (foldl_min_le zs 0).2 z hz
    have h2 : z < 0 := by simpa using hn
    have : leastP zs ≠ 0 := by unfold leastP; omega
    simpa using this
  · have h' : zs.any (fun z => decide (z < 0)) = false := by simpa using h
    rw [h']
    have : leastP zs = 0 := foldl_min_zero zs fun z hz => by
      have := List.any_eq_false.1 h' z hz
      simpa using this
    simpa using this
def cashNeededP (xs : List Bond) (ys : List Int) : Int × Int := if needsCode xs ys 0 = 0 then (-leastP (keptL xs ys 0), 0) else (0, needsCode xs ys 0)
def doCoverP (xs : List Bond) (ys : List Int) (cash : Int) : Bool × Int := if needsCode xs ys cash = 0 then (leastP (keptL xs ys cash) == 0, 0) else (false, needsCode xs ys cash)
theorem kept_bound {xs : List Bond} {ys : List Int} {cash : Int} (h : needsCode xs ys cash = 0) : ∀ z ∈ keptL xs ys cash, -50000000000 ≤ z ∧ z ≤ 2000000000000 := by
  obtain ⟨h1, ⟨h2, h3⟩, h4⟩ := needs_ok h
  intro z hz
  simp only [keptL, keptTo, List.mem_map, List.mem_range] at hz
  obtain ⟨j, hj, rfl⟩ := hz
  have hl := bonds_len h1
  have := cashAt_bound (f := flowAt xs) (ys := ys) (cash := cash) (fun i => by have := flow_bound (xs := xs) i (bonds_bond h1); omega) h3 h4 (j + 1)
  omega

set_option maxHeartbeats 1000000 in
theorem spec_l20Least_any (A : Option Addr) (n cap : Nat) (zs : List Int) (w : World) (hl : zs.length = n) (hn : n ≤ 1048576) (hX : Rd w w.heap.size A 1 (intRows zs)) :
    Calls Try.prog 52 #[.slice A n cap] w fun e w' => e = .returned (.int .i64 (leastP zs)) ∧ w = w' := by
  have HX := Lib.hid hX; clear hX
  have HL := Lib.hid hl; clear hl
  go_enter Try.func52, Try.ntmps52
  go_wp2
  go_loop [3, 4] (fun m i => ∃ k : Nat, k ≤ n ∧ i = .int .i64 k ∧ m = .int .i64 (leastP (zs.take k))) (fun _ i => n - (intOf i).toNat)
  case atStart => exact ⟨0, by omega, rfl, rfl⟩
  case round =>
    obtain ⟨k, hk, rfl, rfl⟩ := hrel
    by_cases hlt : k < n
    · obtain ⟨z, hz⟩ := get_of_lt (xs := zs) (k := k) (by rw [HL.out]; exact hlt)
      obtain ⟨ad, rfl, had, hc⟩ := HX.out.int_at hz
      have HZ := Lib.hid (least_snoc hz)
      clear hz
      go_wp2
      go_round
      case rel => exact ⟨k + 1, by omega, by go_num, by rw [HZ.out]; congr 1; split <;> omega⟩
      case measure => simp [intOf]; omega
    · have hkn : k = n := by omega
      subst hkn
      go_wp2
      go_ret
      exact ⟨by rw [take_all HL.out]; rfl, rfl⟩

theorem doCover1_any (x : Int) (w : World) :
    Calls Try.prog 55 #[.int .i64 x] w fun e w' => e = .returned (.bool (decide (x < 0))) ∧ w = w' := by
  go_enter Try.func55, Try.ntmps55
  go_wp2
  go_ret
  exact ⟨rfl, rfl⟩

set_option maxHeartbeats 1000000 in
theorem indexNeg_any (A : Option Addr) (n cap : Nat) (xs : List Int) (w : World) (hl : xs.length = n) (hn : n ≤ 1048576) (hX : Rd w w.heap.size A 1 (intRows xs)) :
    Calls Try.prog 72 #[.slice A n cap, .func (.func 55) #[] #[]] w fun e w' => ∃ i : Int, e = .returned (.int .i64 i) ∧ (xs.any (fun x => decide (x < 0)) = decide (0 ≤ i)) ∧ w = w' := by
  have HX := Lib.hid hX; clear hX
  have HL := Lib.hid hl; clear hl
  go_enter Try.func72, Try.ntmps72
  go_wp2
  go_loop [8] (fun i => ∃ k : Nat, k ≤ n ∧ i = .int .i64 k ∧ (xs.take k).any (fun x => decide (x < 0)) = false) (fun i => n - (intOf i).toNat)
  case atStart => exact ⟨0, by omega, rfl, rfl⟩
  case round =>
    obtain ⟨k, hk, rfl, hany⟩ := hrel
    have HA := Lib.hid hany; clear hany
    by_cases hlt : k < n
    · obtain ⟨x, hx⟩ := get_of_lt (xs := xs) (k := k) (by rw [HL.out]; exact hlt)
      obtain ⟨ad, rfl, had, hc⟩ := HX.out.int_at hx
      have Hx := Lib.hid hx; clear hx
      go_wp2_with fail
      refine (doCover1_any x _).mono ?_
      rintro e w1 ⟨rfl, rfl⟩
      by_cases hb : x < 0
      · have Hb := Lib.hid hb
        go_wp2
        go_ret
        exact ⟨_, rfl, by rw [any_stop Hx.out (by simpa using Hb.out)]; simp, rfl⟩
      · have Hb := Lib.hid hb
        go_wp2
        go_round
        case rel => exact ⟨k + 1, by omega, by go_num, any_succ HA.out Hx.out (by simpa using Hb.out)⟩
        case measure => simp [intOf]; omega
    · have hkn : k = n := by omega
      subst hkn
      go_wp2
      go_ret
      exact ⟨_, rfl, by rw [any_end HL.out HA.out]; simp, rfl⟩

theorem containsNeg_any (A : Option Addr) (n cap : Nat) (xs : List Int) (w : World) (hl : xs.length = n) (hn : n ≤ 1048576) (hX : Rd w w.heap.size A 1 (intRows xs)) :
    Calls Try.prog 54 #[.slice A n cap, .func (.func 55) #[] #[]] w fun e w' => e = .returned (.bool (xs.any fun x => decide (x < 0))) ∧ w = w' := by
  have HX := Lib.hid hX; clear hX
  have HL := Lib.hid hl; clear hl
  go_enter Try.func54, Try.ntmps54
  go_wp2_with fail
  refine (indexNeg_any A n cap xs w HL.out hn HX.out).mono ?_
  rintro e w1 ⟨i, rfl, hi, rfl⟩
  have Hi := Lib.hid hi; clear hi
  go_wp2
  go_ret
  exact ⟨by rw [Hi.out]; rfl, rfl⟩

set_option maxHeartbeats 2000000 in
theorem impl_DoCover_any (A : Option Addr) (n cap : Nat) (xs : List Bond) (A2 : Option Addr) (n2 cap2 : Nat) (ys : List Int) (cash : Int) (w : World) (hl : xs.length = n) (hn : n ≤ 1048576) (hX : Rd w w.heap.size A 3 (bondRows xs)) (hf : ∀ x ∈ xs, x.fits)
    (hl2 : ys.length = n2) (hn2 : n2 ≤ 1048576) (hY : Rd w w.heap.size A2 1 (intRows ys)) (_hg : ∀ y ∈ ys, In64 y) (_hc : In64 cash) :
    Calls Try.prog 26 #[.slice A n cap, .slice A2 n2 cap2, .int .i64 cash] w fun e w' => e = .returned (.tuple #[.bool (doCoverP xs ys cash).1, .int .i64 (doCoverP xs ys cash).2]) ∧ Below w.heap.size w w' := by
  have HX := Lib.hid hX; clear hX
  have HY := Lib.hid hY; clear hY
  have HF := Lib.hid hf; clear hf
  have HL := Lib.hid hl; clear hl
  have HL2 := Lib.hid hl2; clear hl2
  by_cases h : needsCode xs ys cash = 0
  rotate_left
  · have Q := Lib.hid (show doCoverP xs ys cash = (false, needsCode xs ys cash) by unfold doCoverP; rw [if_neg h])
    go_enter Try.func26, Try.ntmps26
    go_wp2_with (first | (go_at_call 49; refine (impl_checkNeeds_any A A2 n cap n2 cap2 xs ys cash _ HL.out hn HX.out HF.out HL2.out hn2 HY.out).mono ?_; rintro e w1 ⟨rfl, hb1⟩))
    go_ret2
    exact ⟨by rw [Q.out]; rfl, hb1⟩
  have Q := Lib.hid (show doCoverP xs ys cash = (!(keptL xs ys cash).any fun z => decide (z < 0), 0) by unfold doCoverP; rw [if_pos h, least_any])
  have HN := Lib.hid (needs_ok h)
  have hl30 : n ≤ 30 := by have := bonds_len HN.out.1; have := HL.out; omega
  have hl40 : n2 ≤ 40 := by have := HN.out.2.1.1; have := HL2.out; omega
  go_enter Try.func26, Try.ntmps26
  go_wp2_with (first | (go_at_call 49; refine (impl_checkNeeds_any A A2 n cap n2 cap2 xs ys cash _ HL.out hn HX.out HF.out HL2.out hn2 HY.out).mono ?_; rintro e w1 ⟨rfl, hb1⟩))
  refine (impl_kept_any A A2 n cap n2 cap2 xs ys cash _ HL.out hl30 (HX.out.past hb1) (bonds_bond HN.out.1) HL2.out hl40 (HY.out.past hb1) HN.out.2.1.2 HN.out.2.2).mono ?_
  rintro e w2 ⟨A', c', rfl, hR, hb2⟩
  have HR := Lib.hid (hR.more hb1.size); clear hR
  have HB := Lib.hid (below_step hb1 hb2)
  clear hb1 hb2
  go_wp2_with fail
  have hk : (keptL xs ys cash) = keptTo (flowAt xs) ys cash n2 := by unfold keptL; rw [HL2.out]
  rw [← hk] at HR
  have HK := Lib.hid hk; clear hk
  refine (containsNeg_any A' n2 c' (keptL xs ys cash) w2 (by rw [HK.out]; simp [keptTo]) (by omega) HR.out.rd).mono ?_
  rintro e w3 ⟨rfl, rfl⟩
  go_wp2
  go_ret2
  exact ⟨by rw [Q.out]; rfl, HB.out⟩

set_option maxHeartbeats 2000000 in
theorem spec_CashNeeded_any (A : Option Addr) (n cap : Nat) (xs : List Bond) (A2 : Option Addr) (n2 cap2 : Nat) (ys : List Int) (w : World) (hl : xs.length = n) (hn : n ≤ 1048576) (hX : Rd w w.heap.size A 3 (bondRows xs)) (hf : ∀ x ∈ xs, x.fits)
    (hl2 : ys.length = n2) (hn2 : n2 ≤ 1048576) (hY : Rd w w.heap.size A2 1 (intRows ys)) (_hg : ∀ y ∈ ys, In64 y) :
    Calls Try.prog 24 #[.slice A n cap, .slice A2 n2 cap2] w fun e w' => e = .returned (.tuple #[.int .i64 (cashNeededP xs ys).1, .int .i64 (cashNeededP xs ys).2]) ∧ Below w.heap.size w w' := by
  have HX := Lib.hid hX; clear hX
  have HY := Lib.hid hY; clear hY
  have HF := Lib.hid hf; clear hf
  have HL := Lib.hid hl; clear hl
  have HL2 := Lib.hid hl2; clear hl2
  by_cases h1 : bondsB xs = true
  rotate_left
  · have Q := Lib.hid (show cashNeededP xs ys = (0, 1) by simp [cashNeededP, needsCode, h1])
    have h1' : bondsB xs = false := by simpa using h1
    clear h1
    go_enter Try.func24, Try.ntmps24
    go_wp2_with (first | (go_at_call 34; refine (spec_l20Needs_any A2 n2 cap2 ys _ HL2.out hn2 HY.out).mono ?_; rintro e w' ⟨rfl, rfl⟩) | (go_at_call 51; refine (spec_l20Code_any A n cap xs _ _ HL.out hn HX.out HF.out).mono ?_; rintro e w1 ⟨rfl, hb1⟩))
    all_goals (go_ret2; exact ⟨by rw [Q.out]; rfl, hb1⟩)
  by_cases h2 : needsB ys = true
  rotate_left
  · have Q := Lib.hid (show cashNeededP xs ys = (0, 2) by simp [cashNeededP, needsCode, h1, h2])
    have h2' : needsB ys = false := by simpa using h2
    clear h2
    go_enter Try.func24, Try.ntmps24
    go_wp2_with (first | (go_at_call 34; refine (spec_l20Needs_any A2 n2 cap2 ys _ HL2.out hn2 HY.out).mono ?_; rintro e w' ⟨rfl, rfl⟩) | (go_at_call 51; refine (spec_l20Code_any A n cap xs _ _ HL.out hn HX.out HF.out).mono ?_; rintro e w1 ⟨rfl, hb1⟩))
    all_goals (go_ret2; exact ⟨by rw [Q.out]; rfl, hb1⟩)
  have h0 : needsCode xs ys 0 = 0 := by simp [needsCode, h1, h2, inR]
  have Q := Lib.hid (show cashNeededP xs ys = (-leastP (keptL xs ys 0), 0) by unfold cashNeededP; rw [if_pos h0])
  have HN := Lib.hid (needs_ok h0)
  have HB9 := Lib.hid (least_bound (B := 50000000000) (by omega) fun z hz => (kept_bound h0 z hz).1)
  clear h0
  have hl30 : n ≤ 30 := by have := bonds_len HN.out.1; have := HL.out; omega
  have hl40 : n2 ≤ 40 := by have := HN.out.2.1.1; have := HL2.out; omega
  go_enter Try.func24, Try.ntmps24
  go_wp2_with (first | (go_at_call 34; refine (spec_l20Needs_any A2 n2 cap2 ys _ HL2.out hn2 HY.out).mono ?_; rintro e w' ⟨rfl, rfl⟩) | (go_at_call 51; refine (spec_l20Code_any A n cap xs _ _ HL.out hn HX.out HF.out).mono ?_; rintro e w1 ⟨rfl, hb1⟩))
  refine (spec_l20Kept_any A A2 n cap n2 cap2 xs ys 0 _ HL.out hl30 (HX.out.past hb1) (bonds_bond HN.out.1) HL2.out hl40 (HY.out.past hb1) HN.out.2.1.2 HN.out.2.2).mono ?_
  rintro e w2 ⟨A', c', rfl, hR, hb2⟩
  have HR := Lib.hid hR; clear hR
  have HB := Lib.hid (below_step hb1 hb2)
  clear hb1 hb2
  have hk : (keptL xs ys 0) = keptTo (flowAt xs) ys 0 n2 := by unfold keptL; rw [HL2.out]
  rw [← hk] at HR
  have HK := Lib.hid hk; clear hk
  have hb9 := HB9.out
  obtain ⟨b1, b2⟩ := hb9
  go_wp2_with (first | (go_at_call 52; refine (spec_l20Least_any A' n2 c' (keptL xs ys 0) _ (by rw [HK.out]; simp [keptTo]) (by omega) HR.out.rd).mono ?_; rintro e w' ⟨rfl, rfl⟩))
  go_ret2
  exact ⟨by rw [Q.out]; rfl, HB.out⟩

theorem least_max (zs : List Int) (k : Nat) : -leastP (zs.take k) = (zs.take k).foldl (fun c n => max c (-n)) 0 := by
  unfold leastP
  generalize zs.take k = l
  suffices h : ∀ (l : List Int) (a : Int), -(l.foldl min a) = l.foldl (fun c n => max c (-n)) (-a) by
    have := h l 0
    simpa using this
  intro l
  induction l with
  | nil => intro a; rfl
  | cons z r ih => intro a; rw [List.foldl_cons, List.foldl_cons, ih]; congr 1; omega

set_option maxHeartbeats 2000000 in
theorem impl_CashNeeded_any (A : Option Addr) (n cap : Nat) (xs : List Bond) (A2 : Option Addr) (n2 cap2 : Nat) (ys : List Int) (w : World) (hl : xs.length = n) (hn : n ≤ 1048576) (hX : Rd w w.heap.size A 3 (bondRows xs)) (hf : ∀ x ∈ xs, x.fits)
    (hl2 : ys.length = n2) (hn2 : n2 ≤ 1048576) (hY : Rd w w.heap.size A2 1 (intRows ys)) (_hg : ∀ y ∈ ys, In64 y) :
    Calls Try.prog 23 #[.slice A n cap, .slice A2 n2 cap2] w fun e w' => e = .returned (.tuple #[.int .i64 (cashNeededP xs ys).1, .int .i64 (cashNeededP xs ys).2]) ∧ Below w.heap.size w w' := by
  have HX := Lib.hid hX; clear hX
  have HY := Lib.hid hY; clear hY
  have HF := Lib.hid hf; clear hf
  have HL := Lib.hid hl; clear hl
  have HL2 := Lib.hid hl2; clear hl2
  by_cases h : needsCode xs ys 0 = 0
  rotate_left
  · have Q := Lib.hid (show cashNeededP xs ys = (0, needsCode xs ys 0) by unfold cashNeededP; rw [if_neg h])
    go_enter Try.func23, Try.ntmps23
    go_wp2_with (first | (go_at_call 49; refine (impl_checkNeeds_any A A2 n cap n2 cap2 xs ys 0 _ HL.out hn HX.out HF.out HL2.out hn2 HY.out).mono ?_; rintro e w1 ⟨rfl, hb1⟩))
    go_ret2
    exact ⟨by rw [Q.out]; rfl, hb1⟩
  have Q := Lib.hid (show cashNeededP xs ys = (-leastP (keptL xs ys 0), 0) by unfold cashNeededP; rw [if_pos h])
  have HN := Lib.hid (needs_ok h)
  have HB9 := Lib.hid (kept_bound h)
  have hl30 : n ≤ 30 := by have := bonds_len HN.out.1; have := HL.out; omega
  have hl40 : n2 ≤ 40 := by have := HN.out.2.1.1; have := HL2.out; omega
  go_enter Try.func23, Try.ntmps23
  go_wp2_with (first | (go_at_call 49; refine (impl_checkNeeds_any A A2 n cap n2 cap2 xs ys 0 _ HL.out hn HX.out HF.out HL2.out hn2 HY.out).mono ?_; rintro e w1 ⟨rfl, hb1⟩))
  refine (impl_kept_any A A2 n cap n2 cap2 xs ys 0 _ HL.out hl30 (HX.out.past hb1) (bonds_bond HN.out.1) HL2.out hl40 (HY.out.past hb1) HN.out.2.1.2 HN.out.2.2).mono ?_
  rintro e w2 ⟨A', c', rfl, hR, hb2⟩
  have HR := Lib.hid hR; clear hR
  have HB := Lib.hid (below_step hb1 hb2)
  clear hb1 hb2
  have hk : (keptL xs ys 0) = keptTo (flowAt xs) ys 0 n2 := by unfold keptL; rw [HL2.out]
  rw [← hk] at HR
  have HK := Lib.hid hk; clear hk
  have HKL := Lib.hid (show (keptL xs ys 0).length = n2 by rw [HK.out]; simp [keptTo])
  go_wp2
  go_loop [7, 20] (fun c i => ∃ k : Nat, k ≤ n2 ∧ i = .int .i64 k ∧ c = .int .i64 (-leastP ((keptL xs ys 0).take k))) (fun _ i => n2 - (intOf i).toNat)
  case atStart => exact ⟨0, by omega, rfl, rfl⟩
  case round =>
    obtain ⟨k, hk, rfl, rfl⟩ := hrel
    by_cases hlt : k < n2
    · obtain ⟨z, hz⟩ := get_of_lt (xs := keptL xs ys 0) (k := k) (by rw [HKL.out]; exact hlt)
      obtain ⟨ad, rfl, had, hc⟩ := HR.out.rd.int_at hz
      have hzb := HB9.out z (List.mem_of_getElem? hz)
      obtain ⟨z1, z2⟩ := hzb
      have HZ := Lib.hid (least_snoc hz)
      clear hz
      go_wp2
      go_round
      case rel => exact ⟨k + 1, by omega, by go_num, by rw [HZ.out]; congr 1; omega⟩
      case measure => simp [intOf]; omega
    · have hkn : k = n2 := by omega
      subst hkn
      go_wp2
      go_ret2
      exact ⟨by rw [Q.out, take_all HKL.out]; rfl, HB.out⟩
end Go.Proofs.Ytlbllonpodckgaa
