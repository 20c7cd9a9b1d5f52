/- Parts of a proof, one after another: Minus, PolS2, PolI. No condition. -/
import Derived.Test.YtbjdbpdgacfcpaaGreatK7
import Derived.Test.YtbjdbpdgacfcpaaGreatK9
/- The difference of two products divided by a number, bit by bit: the reference's contract. -/
section
namespace Go.Proofs.YtbjdbpdgacfcpaaGreat
open Go.RowKit Go.BigFrame

theorem minus_parts {a b s c d A S : Int} (hA : 0 ≤ A ∧ A ≤ a) (hS : 0 ≤ S ∧ S ≤ s) (hb : 0 ≤ b) (hc : 0 ≤ c) (hd : 1 ≤ d) (h1 : a * b / d ≤ 100000000000000000) (h2 : s * c / d ≤ 100000000000000000) :
    -100000000000000001 ≤ (A * b - S * c) / d ∧ (A * b - S * c) / d ≤ 100000000000000000 := by
  have e1 : A * b ≤ a * b := Int.mul_le_mul_of_nonneg_right hA.2 hb
  have e2 : S * c ≤ s * c := Int.mul_le_mul_of_nonneg_right hS.2 hc
  have e3 : 0 ≤ A * b := Int.mul_nonneg hA.1 hb
  have e4 : 0 ≤ S * c := Int.mul_nonneg hS.1 hc
  have f1 : (A * b - S * c) / d ≤ a * b / d := Int.ediv_le_ediv (by omega) (by omega)
  have f2 : -(s * c) / d ≤ (A * b - S * c) / d := Int.ediv_le_ediv (by omega) (by omega)
  have f3 : -(s * c / d) - 1 ≤ -(s * c) / d := by
    apply Int.le_ediv_of_mul_le (by omega)
    have g1 := Int.mul_ediv_add_emod (s * c) d
    have g2 := Int.emod_lt_of_pos (s * c) (by omega : 0 < d)
    have g3 := Int.emod_nonneg (s * c) (by omega : d ≠ 0)
    rw [Int.sub_mul, Int.neg_mul, Int.mul_comm (s * c / d)]
    omega
  omega
theorem quo_of {x d q r : Int} (h : q * d + r = x) (h0 : 0 ≤ r) (h1 : r < d) : x / d = q ∧ x % d = r := by
  subst h
  rw [Int.add_comm, Int.add_mul_ediv_right _ _ (by omega), Int.ediv_eq_zero_of_lt h0 h1, Int.add_mul_emod_self_right, Int.emod_eq_of_lt h0 h1]
  omega
theorem q_near {x d q r : Int} (hd : 1 ≤ d) (h : q * d + r = x) (h0 : -d < r) (h1 : r < 3 * d) : x / d - 2 ≤ q ∧ q ≤ x / d + 1 := by
  have e : x / d = q + r / d := by subst h; rw [Int.add_comm, Int.add_mul_ediv_right _ _ (by omega)]; omega
  have e1 : -1 ≤ r / d := Int.le_ediv_of_mul_le (by omega) (by omega)
  have e2 : r / d < 3 := Int.ediv_lt_of_lt_mul (by omega) h1
  omega
theorem pow_half {a : Int} {k : Nat} (_ha : 0 ≤ a) : a / 2 ^ k / 2 = a / 2 ^ (k + 1) := by
  rw [Int.pow_succ, ← Int.ediv_ediv_of_nonneg (Int.pow_nonneg (by omega))]

set_option maxHeartbeats 8000000 in
theorem spec_l10Minus_any (a b s c d : Int) (w : World) (ha : 0 ≤ a ∧ a < 4398046511104) (hb : 0 ≤ b ∧ b ≤ 1000000000000000000) (hs : 0 ≤ s ∧ s < 4398046511104) (hc : 0 ≤ c ∧ c ≤ 1000000000000000000) (hd : 1 ≤ d ∧ d ≤ 1000000000000000000)
    (h1 : a * b / d ≤ 100000000000000000) (h2 : s * c / d ≤ 100000000000000000) :
    Calls Tryz.prog 143 #[.int .i64 a, .int .i64 b, .int .i64 s, .int .i64 c, .int .i64 d] w fun e w' => e = .returned (.tuple #[.int .i64 ((a * b - s * c) / d), .int .i64 ((a * b - s * c) % d)]) ∧ w = w' := by
  obtain ⟨a1, a2⟩ := ha
  obtain ⟨b1, b2⟩ := hb
  obtain ⟨s1, s2⟩ := hs
  obtain ⟨c1, c2⟩ := hc
  obtain ⟨d1, d2⟩ := hd
  have hdz : ¬ d = 0 := by omega
  have HA42 := Lib.hid (show a / 2 ^ 42 = 0 from Int.ediv_eq_zero_of_lt a1 (by omega))
  have HS42 := Lib.hid (show s / 2 ^ 42 = 0 from Int.ediv_eq_zero_of_lt s1 (by omega))
  have HPB := Lib.hid (fun (k : Nat) => minus_parts (a := a) (b := b) (s := s) (c := c) (d := d) (A := a / 2 ^ k) (S := s / 2 ^ k) ⟨Int.ediv_nonneg a1 (Int.pow_nonneg (by omega)), Int.ediv_le_self _ a1⟩ ⟨Int.ediv_nonneg s1 (Int.pow_nonneg (by omega)), Int.ediv_le_self _ s1⟩ b1 c1 d1 h1 h2)
  have bq1 : 0 ≤ b / d := Int.ediv_nonneg b1 (by omega)
  have bq2 : b / d ≤ 1000000000000000000 := by have := Int.ediv_le_self d b1; omega
  have br1 : 0 ≤ b % d := Int.emod_nonneg _ (by omega)
  have br2 : b % d < d := Int.emod_lt_of_pos _ (by omega)
  have cq1 : 0 ≤ c / d := Int.ediv_nonneg c1 (by omega)
  have cq2 : c / d ≤ 1000000000000000000 := by have := Int.ediv_le_self d c1; omega
  have cr1 : 0 ≤ c % d := Int.emod_nonneg _ (by omega)
  have cr2 : c % d < d := Int.emod_lt_of_pos _ (by omega)
  have HBD := Lib.hid (Int.mul_ediv_add_emod b d)
  have HCD := Lib.hid (Int.mul_ediv_add_emod c d)
  obtain ⟨bq, hbq⟩ : ∃ x, b / d = x := ⟨_, rfl⟩
  obtain ⟨br, hbr⟩ : ∃ x, b % d = x := ⟨_, rfl⟩
  obtain ⟨cq, hcq⟩ : ∃ x, c / d = x := ⟨_, rfl⟩
  obtain ⟨cr, hcr⟩ : ∃ x, c % d = x := ⟨_, rfl⟩
  rw [hbq] at bq1 bq2
  rw [hbr] at br1 br2
  rw [hcq] at cq1 cq2
  rw [hcr] at cr1 cr2
  rw [hbq, hbr] at HBD
  rw [hcq, hcr] at HCD
  go_enter Tryz.func143, Tryz.ntmps143
  go_wp2
  go_loop [12, 13, 14] (fun x y i => ∃ (k : Nat) (q r : Int), k ≤ 42 ∧ i = .int .i64 ((k : Int) - 1) ∧ x = .int .i64 q ∧ y = .int .i64 r ∧ Hid (q * d + r = a / 2 ^ k * b - s / 2 ^ k * c) ∧ 0 ≤ r ∧ r < d ∧ -100000000000000001 ≤ q ∧ q ≤ 100000000000000000) (fun _ _ i => (intOf i + 1).toNat)
  case atStart => exact ⟨42, 0, 0, by omega, rfl, rfl, rfl, Lib.hid (by rw [HA42.out, HS42.out]; simp), by omega, by omega, by omega, by omega⟩
  case round =>
    obtain ⟨k, q, r, hk, rfl, rfl, rfl, hq, r1, r2, q1, q2⟩ := hrel
    cases k with
    | zero =>
      have hx := hq.out
      simp only [Int.pow_zero, Int.ediv_one] at hx
      have Q := Lib.hid (quo_of hx r1 r2)
      clear hx
      rw [show (((0 : Nat) : Int) - 1) = -1 from rfl]
      go_wp2
      go_ret2
      exact ⟨by rw [Q.out.1, Q.out.2]; rfl, rfl⟩
    | succ k =>
      obtain ⟨A2, hA2⟩ : ∃ A2, a / 2 ^ k = A2 := ⟨_, rfl⟩
      obtain ⟨S2, hS2⟩ : ∃ S2, s / 2 ^ k = S2 := ⟨_, rfl⟩
      have A2p : 0 ≤ A2 := by rw [← hA2]; exact Int.ediv_nonneg a1 (Int.pow_nonneg (by omega))
      have S2p : 0 ≤ S2 := by rw [← hS2]; exact Int.ediv_nonneg s1 (Int.pow_nonneg (by omega))
      have hdA : A2 / 2 = a / 2 ^ (k + 1) := by rw [← hA2]; exact pow_half a1
      have hdS : S2 / 2 = s / 2 ^ (k + 1) := by rw [← hS2]; exact pow_half s1
      have hqo := hq.out
      rw [← hdA, ← hdS] at hqo
      have HQ := Lib.hid hqo
      have HX := Lib.hid (HPB.out k)
      rw [hA2, hS2] at HX
      have HA2 := Lib.hid hA2; have HS2 := Lib.hid hS2
      rw [show (((k + 1 : Nat) : Int) - 1) = (k : Int) by omega]
      have hk42 : (k : Int) ≤ 41 := by omega
      clear hdA hdS hqo hq
      obtain ⟨Ah, hAh⟩ : ∃ Ah, A2 / 2 = Ah := ⟨_, rfl⟩
      obtain ⟨Sh, hSh⟩ : ∃ Sh, S2 / 2 = Sh := ⟨_, rfl⟩
      rw [hAh, hSh] at HQ
      obtain ⟨ea, hea⟩ : ∃ ea, A2 % 2 = ea := ⟨_, rfl⟩
      obtain ⟨es, hes⟩ : ∃ es, S2 % 2 = es := ⟨_, rfl⟩
      have eab : ea = 0 ∨ ea = 1 := by omega
      have esb : es = 0 ∨ es = 1 := by omega
      have hta : A2.tmod 2 = ea := by rw [Int.tmod_eq_emod_of_nonneg A2p]; exact hea
      have hts : S2.tmod 2 = es := by rw [Int.tmod_eq_emod_of_nonneg S2p]; exact hes
      have HN := Lib.hid (show (2 * q + ea * bq - es * cq) * d + (2 * r + ea * br - es * cr) = A2 * b - S2 * c by
        have e1 : A2 = 2 * Ah + ea := by omega
        have e2 : S2 = 2 * Sh + es := by omega
        have e3 := HQ.out
        have e4 := HBD.out
        have e5 := HCD.out
        have e6 : A2 * b = 2 * (Ah * b) + ea * b := by rw [e1, Int.add_mul, Int.mul_assoc]
        have e7 : S2 * c = 2 * (Sh * c) + es * c := by rw [e2, Int.add_mul, Int.mul_assoc]
        have e8 : ea * b = ea * bq * d + ea * br := by rw [← e4, Int.mul_add, Int.mul_comm d bq, Int.mul_assoc]
        have e9 : es * c = es * cq * d + es * cr := by rw [← e5, Int.mul_add, Int.mul_comm d cq, Int.mul_assoc]
        rw [Int.sub_mul, Int.add_mul, e6, e7, e8, e9, Int.mul_assoc 2 q d]
        omega)
      clear hea hes hAh hSh
      obtain ⟨qn, hqn⟩ : ∃ qn, 2 * q + ea * bq - es * cq = qn := ⟨_, rfl⟩
      obtain ⟨rn, hrn⟩ : ∃ rn, 2 * r + ea * br - es * cr = rn := ⟨_, rfl⟩
      rw [hqn, hrn] at HN
      rcases eab with rfl | rfl <;> rcases esb with rfl | rfl
      all_goals
        simp only [Int.zero_mul, Int.one_mul, Int.add_zero, Int.sub_zero] at hqn hrn
        go_wp2
        go_loop [12, 13] (fun x y => ∃ q3 r3 : Int, x = .int .i64 q3 ∧ y = .int .i64 r3 ∧ Hid (q3 * d + r3 = A2 * b - S2 * c) ∧ -d < r3 ∧ r3 < 3 * d) (fun _ y => (-(intOf y)).toNat)
        case atStart => exact ⟨qn, rn, rfl, rfl, HN, by omega, by omega⟩
        case round =>
          obtain ⟨q3, r3, rfl, rfl, h3, g1, g2⟩ := hrel
          have hxb := HX.out
          obtain ⟨x1, x2⟩ := hxb
          have hqn3 := q_near d1 h3.out g1 g2
          obtain ⟨n1, n2⟩ := hqn3
          by_cases hneg : r3 < 0
          · have H4 := Lib.hid (show (q3 - 1) * d + (r3 + d) = A2 * b - S2 * c by rw [Int.sub_mul, ← h3.out]; omega)
            go_wp2
            go_round
            case rel => exact ⟨_, _, rfl, rfl, H4, by omega, by omega⟩
            case measure => simp [intOf]; omega
          · go_wp2
            go_loop [12, 13] (fun x y => ∃ q3 r3 : Int, x = .int .i64 q3 ∧ y = .int .i64 r3 ∧ Hid (q3 * d + r3 = A2 * b - S2 * c) ∧ 0 ≤ r3 ∧ r3 < 3 * d) (fun _ y => (intOf y).toNat)
            case atStart => exact ⟨q3, r3, rfl, rfl, h3, by omega, by omega⟩
            case round =>
              obtain ⟨q4, r4, rfl, rfl, h4, g3, g4⟩ := hrel
              have hqn4 := q_near d1 h4.out (by omega) g4
              obtain ⟨n3, n4⟩ := hqn4
              by_cases hge : d ≤ r4
              · have H5 := Lib.hid (show (q4 + 1) * d + (r4 - d) = A2 * b - S2 * c by rw [Int.add_mul, ← h4.out]; omega)
                go_wp2
                go_round
                case rel => exact ⟨_, _, rfl, rfl, H5, by omega, by omega⟩
                case measure => simp [intOf]; omega
              · have HQ5 := Lib.hid (quo_of h4.out g3 (by omega))
                have hq4 : -100000000000000001 ≤ q4 ∧ q4 ≤ 100000000000000000 := by rw [← HQ5.out.1]; exact HX.out
                go_wp2
                go_round
                case rel => exact ⟨k, q4, r4, by omega, by go_num, rfl, rfl, Lib.hid (by rw [HA2.out, HS2.out]; exact h4.out), g3, by omega, hq4.1, hq4.2⟩
                case measure => simp [intOf] <;> omega
end Go.Proofs.YtbjdbpdgacfcpaaGreat
end

/- Premiums, reserves and their codes: the reference's contracts. -/
section
namespace Go.Proofs.YtbjdbpdgacfcpaaGreat
open Go.RowKit Go.BigFrame
theorem polRow_size : (Policy.row ⟨0, 0, 0, 0, 0⟩).length = 5 := rfl


set_option maxHeartbeats 2000000 in
theorem spec_l10Net_any (b : Bas) (A : Option Addr) (n cap : Nat) (p : Policy) (w : World) (hB : BasT w A n cap b) (P : PolOk b p) :
    Calls Tryz.prog 144 #[.agg #[.int .i64 b.first, .slice A n cap, .int .i64 b.rate], .agg p.row.toArray] w fun e w' => e = .returned (.int .i64 (netP b p)) ∧ Below w.heap.size w w' := by
  have hbw := boxes_below (w := w) (X := b.row A n cap) (Y := p.row) (tx := 28) (ty := 88)
  have HB := Lib.hid ((Blk.new w 28 (b.row A n cap).toArray).alloc (.cells p.row.toArray 88))
  have HP := Lib.hid (Blk.new (w.alloc (.cells (b.row A n cap).toArray 28)) 88 p.row.toArray)
  rw [World.size_alloc] at HP
  unfold Bas.row Policy.row at *
  have HBT := Lib.hid (hB.past hbw); clear hB
  have Q := Lib.hid (show netP b p = upP p.sum (topF b.lives b.rate p.kind (p.age - b.first).toNat p.years.toNat) (baseF b.lives b.rate p.kind (p.age - b.first).toNat p.years.toNat) from rfl)
  have hd := d_age P
  unfold Bas.d Bas.ix at hd
  have a1 := P.age0; have a2 := P.age1; have y1 := P.yrs0; have y2 := P.yrs1; have s1 := P.sum0; have s2 := P.sum1
  have HPO := Lib.hid P; clear P
  go_enter Tryz.func144, Tryz.ntmps144
  go_wp2_with fail
  refine (spec_l07Level_any b.first A n cap b.lives b.rate p.kind p.age p.years p.sum _ HBT.out.lives HPO.out.tab ⟨HPO.out.rate0, HPO.out.rate1⟩ ⟨by omega, by omega⟩ ⟨by omega, by omega⟩ ⟨by omega, by omega⟩ (kind_or HPO.out) hd).mono ?_
  rintro e w1 ⟨rfl, hb1⟩
  go_wp2
  go_ret
  exact ⟨by rw [Q.out]; rfl, hbw.trans (hb1.mono hbw.size)⟩


set_option maxHeartbeats 2000000 in
theorem spec_l10Duration_any (b : Bas) (A : Option Addr) (n cap : Nat) (p : Policy) (w : World) (hB : BasT w A n cap b) (P : PolOk b p) :
    Calls Tryz.prog 136 #[.agg #[.int .i64 b.first, .slice A n cap, .int .i64 b.rate], .agg p.row.toArray] w fun e w' => e = .returned (.int .i64 (durP b p)) ∧ Below w.heap.size w w' := by
  have hbw := boxes_below (w := w) (X := b.row A n cap) (Y := p.row) (tx := 28) (ty := 88)
  have HB := Lib.hid ((Blk.new w 28 (b.row A n cap).toArray).alloc (.cells p.row.toArray 88))
  have HP := Lib.hid (Blk.new (w.alloc (.cells (b.row A n cap).toArray 28)) 88 p.row.toArray)
  rw [World.size_alloc] at HP
  unfold Bas.row Policy.row at *
  have HBT := Lib.hid (hB.past hbw); clear hB
  have f1 := P.tab.first0; have f2 := P.tab.first1; have l2 := P.tab.len1; have a1 := P.age0; have a2 := P.age1
  have hn := HBT.out.lives.small
  have HL := Lib.hid HBT.out.lives.len
  rw [HL.out] at l2
  clear P
  by_cases hk : p.kind = 0
  · have Q := Lib.hid (show durP b p = b.first + (n : Int) - 1 - p.age by unfold durP Bas.last; rw [if_pos hk, HL.out])
    have hkb : (p.kind == 0) = true := by simp [hk]
    clear hk
    have hcT := Lib.hid (Blk.agg_past (cs := [.int .i64 b.first, .slice A n cap, .int .i64 b.rate]) HB.out 0 [.int .i64 b.first, .slice A n cap] rfl)
    have hcB := Lib.hid (Blk.agg_past (cs := [.int .i64 b.first, .slice A n cap, .int .i64 b.rate]) HB.out 0 [.int .i64 b.first, .slice A n cap, .int .i64 b.rate] rfl)
    have hcP := Lib.hid (Blk.agg_past (cs := [.int .i64 p.kind, .int .i64 p.age, .int .i64 p.years, .int .i64 p.sum, .int .i64 p.load]) HP.out 0 [.int .i64 p.kind, .int .i64 p.age, .int .i64 p.years, .int .i64 p.sum, .int .i64 p.load] rfl)
    have db2 := fun y : Past ((w.alloc (.cells #[.int .i64 b.first, .slice A n cap, .int .i64 b.rate] 28)).alloc (.cells #[.int .i64 p.kind, .int .i64 p.age, .int .i64 p.years, .int .i64 p.sum, .int .i64 p.load] 88)) => Past.cell (p := ⟨w.heap.size, 2, none⟩) (v := .int .i64 b.rate) (HB.out.cell 2) y
    have dp0 := fun y : Past ((w.alloc (.cells #[.int .i64 b.first, .slice A n cap, .int .i64 b.rate] 28)).alloc (.cells #[.int .i64 p.kind, .int .i64 p.age, .int .i64 p.years, .int .i64 p.sum, .int .i64 p.load] 88)) => Past.cell (p := ⟨w.heap.size + 1, 0, none⟩) (v := .int .i64 p.kind) (HP.out.cell 0) y
    have dp1 := fun y : Past ((w.alloc (.cells #[.int .i64 b.first, .slice A n cap, .int .i64 b.rate] 28)).alloc (.cells #[.int .i64 p.kind, .int .i64 p.age, .int .i64 p.years, .int .i64 p.sum, .int .i64 p.load] 88)) => Past.cell (p := ⟨w.heap.size + 1, 1, none⟩) (v := .int .i64 p.age) (HP.out.cell 1) y
    have dp2 := fun y : Past ((w.alloc (.cells #[.int .i64 b.first, .slice A n cap, .int .i64 b.rate] 28)).alloc (.cells #[.int .i64 p.kind, .int .i64 p.age, .int .i64 p.years, .int .i64 p.sum, .int .i64 p.load] 88)) => Past.cell (p := ⟨w.heap.size + 1, 2, none⟩) (v := .int .i64 p.years) (HP.out.cell 2) y
    have dp3 := fun y : Past ((w.alloc (.cells #[.int .i64 b.first, .slice A n cap, .int .i64 b.rate] 28)).alloc (.cells #[.int .i64 p.kind, .int .i64 p.age, .int .i64 p.years, .int .i64 p.sum, .int .i64 p.load] 88)) => Past.cell (p := ⟨w.heap.size + 1, 3, none⟩) (v := .int .i64 p.sum) (HP.out.cell 3) y
    have dp4 := fun y : Past ((w.alloc (.cells #[.int .i64 b.first, .slice A n cap, .int .i64 b.rate] 28)).alloc (.cells #[.int .i64 p.kind, .int .i64 p.age, .int .i64 p.years, .int .i64 p.sum, .int .i64 p.load] 88)) => Past.cell (p := ⟨w.heap.size + 1, 4, none⟩) (v := .int .i64 p.load) (HP.out.cell 4) y
    go_enter Tryz.func136, Tryz.ntmps136
    go_wp2
    refine wp_region_past (by kernel_rfl) (by kernel_rfl) ?_
    repeat (first | (go_big_quiet_want; (first | (refine quiet_load_agg 26 _ rfl ⟨w.heap.size, 0, none⟩ rfl [.int .i64 b.first, .slice A n cap] hcT.out _ Tryz.underlying26 rfl Tab.size ?_)); go_simp; go_big_quiet_on) | go_big_quiet_step ((go_at_call 167; exact past_call (spec_l03End_any b.first A n cap _ hn ⟨by omega, by omega⟩))))
    refine wpQuiet_nil ?_
    rintro _ ⟨y, rfl⟩
    go_wp2
    go_ret
    exact ⟨by rw [Q.out]; rfl, hbw.trans (y.2.mono hbw.size)⟩
  · have Q := Lib.hid (show durP b p = p.years by unfold durP; rw [if_neg hk])
    go_enter Tryz.func136, Tryz.ntmps136
    go_wp2
    go_ret
    exact ⟨by rw [Q.out]; rfl, hbw⟩


theorem spec_l11Left_any (p : Policy) (k : Int) (w : World) (hk : 0 ≤ k ∧ k ≤ 1000) (hy : 0 ≤ p.years ∧ p.years ≤ 120) :
    Calls Tryz.prog 177 #[.agg p.row.toArray, .int .i64 k] w fun e w' => e = .returned (.int .i64 (leftP p k)) ∧ Below w.heap.size w w' := by
  have hbw : Below w.heap.size w (w.alloc (.cells p.row.toArray 88)) := (Below.refl _ w).alloc (Nat.le_refl _) _
  unfold Policy.row at *
  obtain ⟨k1, k2⟩ := hk
  obtain ⟨y1, y2⟩ := hy
  by_cases h0 : p.kind = 0
  · have Q := Lib.hid (show leftP p k = 0 by unfold leftP; rw [if_pos h0])
    have hkb : (p.kind == 0) = true := by simp [h0]
    clear h0
    go_enter Tryz.func177, Tryz.ntmps177
    go_wp2
    go_ret
    exact ⟨by rw [Q.out]; rfl, hbw⟩
  · have Q := Lib.hid (show leftP p k = p.years - k by unfold leftP; rw [if_neg h0])
    go_enter Tryz.func177, Tryz.ntmps177
    go_wp2
    go_ret
    exact ⟨by rw [Q.out]; rfl, hbw⟩

theorem year_facts {b : Bas} {p : Policy} {k : Int} (Y : YearOk b p k) : (0 ≤ leftP p k ∧ leftP p k ≤ 120) ∧ b.first ≤ p.age + k ∧ p.age + k ≤ 300 ∧ k ≤ 150 := by
  have h1 := left_bound Y.toPolOk Y.k0
  have h2 := dur_bound Y.toPolOk
  have := Y.k1; have := Y.k0; have := Y.age0; have := Y.age1; have := Y.yrs0
  refine ⟨⟨?_, h1⟩, by omega, by omega, by omega⟩
  have h3 := Y.k1
  unfold leftP
  unfold durP at h3
  split
  · omega
  · rename_i h; rw [if_neg h] at h3; omega


set_option maxHeartbeats 4000000 in
theorem spec_l11Parts_any (b : Bas) (A : Option Addr) (n cap : Nat) (p : Policy) (k : Int) (w : World) (hB : BasT w A n cap b) (Y : YearOk b p k) :
    Calls Tryz.prog 142 #[.agg #[.int .i64 b.first, .slice A n cap, .int .i64 b.rate], .agg p.row.toArray, .int .i64 k] w fun e w' => e = .returned (.tuple #[.int .i64 (partT b p k), .int .i64 (partB b p k), .int .i64 (partD b p k)]) ∧ Below w.heap.size w w' := by
  have hbw := boxes_below (w := w) (X := b.row A n cap) (Y := p.row) (tx := 28) (ty := 88)
  have HB := Lib.hid ((Blk.new w 28 (b.row A n cap).toArray).alloc (.cells p.row.toArray 88))
  have HP := Lib.hid (Blk.new (w.alloc (.cells (b.row A n cap).toArray 28)) 88 p.row.toArray)
  rw [World.size_alloc] at HP
  unfold Bas.row Policy.row at *
  have HBT := Lib.hid (hB.past hbw); clear hB
  have Q1 := Lib.hid (show partT b p k = topF b.lives b.rate p.kind (p.age + k - b.first).toNat (leftP p k).toNat from rfl)
  have Q2 := Lib.hid (show partB b p k = baseF b.lives b.rate p.kind (p.age + k - b.first).toNat (leftP p k).toNat from rfl)
  have Q3 := Lib.hid (show partD b p k = dC b.lives b.rate (p.age + k - b.first).toNat from rfl)
  obtain ⟨⟨f1, f2⟩, f3, f4, f5⟩ := year_facts Y
  have k0 := Y.k0; have y1 := Y.yrs0; have y2 := Y.yrs1; have a1 := Y.age0; have a2 := Y.age1; have t0 := Y.tab.first0
  have HY := Lib.hid Y; clear Y
  go_enter Tryz.func142, Tryz.ntmps142
  go_wp2_with fail
  refine (spec_l11Left_any p k _ ⟨by omega, by omega⟩ ⟨by omega, by omega⟩).mono ?_
  rintro e w1 ⟨rfl, hb1⟩
  have HB1 := Lib.hid (HB.out.below' hb1)
  have HP1 := Lib.hid (HP.out.below' hb1)
  have HBT1 := Lib.hid (HBT.out.past hb1)
  have hbw1 := hbw.trans (hb1.mono hbw.size)
  have hcT := Lib.hid (Blk.agg_past (cs := [.int .i64 b.first, .slice A n cap, .int .i64 b.rate]) HB1.out 0 [.int .i64 b.first, .slice A n cap] rfl)
  have hcB := Lib.hid (Blk.agg_past (cs := [.int .i64 b.first, .slice A n cap, .int .i64 b.rate]) HB1.out 0 [.int .i64 b.first, .slice A n cap, .int .i64 b.rate] rfl)
  have hcP := Lib.hid (Blk.agg_past (cs := [.int .i64 p.kind, .int .i64 p.age, .int .i64 p.years, .int .i64 p.sum, .int .i64 p.load]) HP1.out 0 [.int .i64 p.kind, .int .i64 p.age, .int .i64 p.years, .int .i64 p.sum, .int .i64 p.load] rfl)
  have db2 := fun y : Past w1 => Past.cell (p := ⟨w.heap.size, 2, none⟩) (v := .int .i64 b.rate) (HB1.out.cell 2) y
  have dp0 := fun y : Past w1 => Past.cell (p := ⟨w.heap.size + 1, 0, none⟩) (v := .int .i64 p.kind) (HP1.out.cell 0) y
  have dp1 := fun y : Past w1 => Past.cell (p := ⟨w.heap.size + 1, 1, none⟩) (v := .int .i64 p.age) (HP1.out.cell 1) y
  have dp2 := fun y : Past w1 => Past.cell (p := ⟨w.heap.size + 1, 2, none⟩) (v := .int .i64 p.years) (HP1.out.cell 2) y
  have dp3 := fun y : Past w1 => Past.cell (p := ⟨w.heap.size + 1, 3, none⟩) (v := .int .i64 p.sum) (HP1.out.cell 3) y
  have dp4 := fun y : Past w1 => Past.cell (p := ⟨w.heap.size + 1, 4, none⟩) (v := .int .i64 p.load) (HP1.out.cell 4) y
  go_wp2
  refine wp_region_past (by kernel_rfl) (by kernel_rfl) ?_
  repeat (first | (go_big_quiet_want; (first | (refine quiet_load_agg 26 _ rfl ⟨w.heap.size, 0, none⟩ rfl [.int .i64 b.first, .slice A n cap] hcT.out _ Tryz.underlying26 rfl Tab.size ?_)); go_simp; go_big_quiet_on) | go_big_quiet_step ((first | (go_at_call 178; exact past_call (spec_l07Top_any b.first A n cap b.lives b.rate p.kind (p.age + k) (leftP p k) _ (HBT1.out.lives.at_past _) HY.out.tab ⟨HY.out.rate0, HY.out.rate1⟩ ⟨by omega, by omega⟩ ⟨by omega, by omega⟩)) | (go_at_call 179; exact past_call (spec_l07Base_any b.first A n cap b.lives b.rate p.kind (p.age + k) (leftP p k) _ (HBT1.out.lives.at_past _) HY.out.tab ⟨HY.out.rate0, HY.out.rate1⟩ ⟨by omega, by omega⟩ ⟨by omega, by omega⟩)) | (go_at_call 170; exact past_call (spec_l05D_any b.first A n cap b.lives b.rate (p.age + k) _ (HBT1.out.lives.at_past _) HY.out.tab ⟨HY.out.rate0, HY.out.rate1⟩ ⟨by omega, by omega⟩)))))
  refine wpQuiet_nil ?_
  rintro _ ⟨y, rfl⟩
  go_wp2
  go_ret3
  exact ⟨by rw [Q1.out, Q2.out, Q3.out]; rfl, hbw1.trans (y.2.mono hbw1.size)⟩


set_option maxHeartbeats 4000000 in
theorem spec_l11Forward_any (b : Bas) (A : Option Addr) (n cap : Nat) (p : Policy) (k : Int) (w : World) (hB : BasT w A n cap b) (Y : YearOk b p k) :
    Calls Tryz.prog 183 #[.agg #[.int .i64 b.first, .slice A n cap, .int .i64 b.rate], .agg p.row.toArray, .int .i64 k] w fun e w' => e = .returned (.tuple #[.int .i64 (fwdP p.sum (partT b p k) (netP b p) (partB b p k) (partD b p k)).1, .int .i64 (fwdP p.sum (partT b p k) (netP b p) (partB b p k) (partD b p k)).2]) ∧ Below w.heap.size w w' := by
  have hbw := boxes_below (w := w) (X := b.row A n cap) (Y := p.row) (tx := 28) (ty := 88)
  have HB := Lib.hid ((Blk.new w 28 (b.row A n cap).toArray).alloc (.cells p.row.toArray 88))
  have HP := Lib.hid (Blk.new (w.alloc (.cells (b.row A n cap).toArray 28)) 88 p.row.toArray)
  rw [World.size_alloc] at HP
  unfold Bas.row Policy.row at *
  have HBT := Lib.hid (hB.past hbw); clear hB
  have HK := Lib.hid (part_ok Y (net_bound Y.toPolOk))
  have HQ := Lib.hid (part_quo HK.out)
  have HY := Lib.hid Y; clear Y
  obtain ⟨n1, n2⟩ := net_bound HY.out.toPolOk
  have q1 := HK.out.s0; have q2 := HK.out.s1; have q3 := HK.out.t0; have q4 := HK.out.t1; have q5 := HK.out.v0; have q6 := HK.out.v1; have q7 := HK.out.d0; have q8 := HK.out.d1
  go_enter Tryz.func183, Tryz.ntmps183
  go_wp2_with fail
  refine (spec_l11Parts_any b A n cap p k _ HBT.out HY.out).mono ?_
  rintro e w1 ⟨rfl, hb1⟩
  have HB1 := Lib.hid (HB.out.below' hb1)
  have HP1 := Lib.hid (HP.out.below' hb1)
  have HBT1 := Lib.hid (HBT.out.past hb1)
  have hbw1 := hbw.trans (hb1.mono hbw.size)
  have hcT := Lib.hid (Blk.agg_past (cs := [.int .i64 b.first, .slice A n cap, .int .i64 b.rate]) HB1.out 0 [.int .i64 b.first, .slice A n cap] rfl)
  have hcB := Lib.hid (Blk.agg_past (cs := [.int .i64 b.first, .slice A n cap, .int .i64 b.rate]) HB1.out 0 [.int .i64 b.first, .slice A n cap, .int .i64 b.rate] rfl)
  have hcP := Lib.hid (Blk.agg_past (cs := [.int .i64 p.kind, .int .i64 p.age, .int .i64 p.years, .int .i64 p.sum, .int .i64 p.load]) HP1.out 0 [.int .i64 p.kind, .int .i64 p.age, .int .i64 p.years, .int .i64 p.sum, .int .i64 p.load] rfl)
  have db2 := fun y : Past w1 => Past.cell (p := ⟨w.heap.size, 2, none⟩) (v := .int .i64 b.rate) (HB1.out.cell 2) y
  have dp0 := fun y : Past w1 => Past.cell (p := ⟨w.heap.size + 1, 0, none⟩) (v := .int .i64 p.kind) (HP1.out.cell 0) y
  have dp1 := fun y : Past w1 => Past.cell (p := ⟨w.heap.size + 1, 1, none⟩) (v := .int .i64 p.age) (HP1.out.cell 1) y
  have dp2 := fun y : Past w1 => Past.cell (p := ⟨w.heap.size + 1, 2, none⟩) (v := .int .i64 p.years) (HP1.out.cell 2) y
  have dp3 := fun y : Past w1 => Past.cell (p := ⟨w.heap.size + 1, 3, none⟩) (v := .int .i64 p.sum) (HP1.out.cell 3) y
  have dp4 := fun y : Past w1 => Past.cell (p := ⟨w.heap.size + 1, 4, none⟩) (v := .int .i64 p.load) (HP1.out.cell 4) y
  go_wp2
  refine wp_region_past (by kernel_rfl) (by kernel_rfl) ?_
  repeat (first | (go_big_quiet_want; (first | (first | (refine quiet_load_agg 28 _ rfl ⟨w.heap.size, 0, none⟩ rfl [.int .i64 b.first, .slice A n cap, .int .i64 b.rate] hcB.out _ Tryz.underlying28 rfl Bas.size ?_) | (refine quiet_load_agg 88 _ rfl ⟨w.heap.size + 1, 0, none⟩ rfl [.int .i64 p.kind, .int .i64 p.age, .int .i64 p.years, .int .i64 p.sum, .int .i64 p.load] hcP.out _ Tryz.underlying88 rfl Policy.size ?_))); go_simp; go_big_quiet_on) | go_big_quiet_step ((first | (go_at_call 144; exact past_call (spec_l10Net_any b A n cap p _ (HBT1.out.at_past _) HY.out.toPolOk)) | (go_at_call 143; exact past_same (spec_l10Minus_any p.sum (partT b p k) (netP b p) (partB b p k) (partD b p k) _ ⟨by omega, by omega⟩ ⟨by omega, by omega⟩ ⟨by omega, by omega⟩ ⟨by omega, by omega⟩ ⟨by omega, by omega⟩ (by have := HQ.out; omega) (by have := HQ.out; omega))))))
  refine wpQuiet_nil ?_
  rintro _ ⟨y, rfl⟩
  go_wp2
  go_ret2
  exact ⟨rfl, hbw1.trans (y.2.mono hbw1.size)⟩


set_option maxHeartbeats 2000000 in
theorem spec_l11At_any (b : Bas) (A : Option Addr) (n cap : Nat) (p : Policy) (k : Int) (w : World) (hB : BasT w A n cap b) (Y : YearOk b p k) :
    Calls Tryz.prog 150 #[.agg #[.int .i64 b.first, .slice A n cap, .int .i64 b.rate], .agg p.row.toArray, .int .i64 k] w fun e w' => e = .returned (.int .i64 (resAt b p k)) ∧ Below w.heap.size w w' := by
  have hbw := boxes_below (w := w) (X := b.row A n cap) (Y := p.row) (tx := 28) (ty := 88)
  have HB := Lib.hid ((Blk.new w 28 (b.row A n cap).toArray).alloc (.cells p.row.toArray 88))
  have HP := Lib.hid (Blk.new (w.alloc (.cells (b.row A n cap).toArray 28)) 88 p.row.toArray)
  rw [World.size_alloc] at HP
  unfold Bas.row Policy.row at *
  have HBT := Lib.hid (hB.past hbw); clear hB
  have HK := Lib.hid (part_ok Y (net_bound Y.toPolOk))
  have HF := Lib.hid (fwd_bound HK.out)
  have HY := Lib.hid Y; clear Y
  have QR := Lib.hid (show resAt b p k = roundP (fwdP p.sum (partT b p k) (netP b p) (partB b p k) (partD b p k)) from rfl)
  have d8 := HK.out.d1
  obtain ⟨F, hF⟩ : ∃ F, fwdP p.sum (partT b p k) (netP b p) (partB b p k) (partD b p k) = F := ⟨_, rfl⟩
  rw [hF] at HF QR
  have HFF := Lib.hid hF; clear hF
  obtain ⟨⟨g1, g2⟩, g3, g4⟩ := HF.out
  rw [QR.out]
  unfold roundP
  obtain ⟨F1, F2⟩ := F
  simp only at g1 g2 g3 g4 ⊢
  by_cases hr : 0 < F2
  · rw [if_pos hr]
    have hmn : min 1 F2 = 1 := by omega
    have hr1 : 1 ≤ F2 := hr
    obtain ⟨m, hm⟩ : ∃ m, max 0 (F1 + 1) = m := ⟨_, rfl⟩
    have HM := Lib.hid hm
    go_enter Tryz.func150, Tryz.ntmps150
    go_wp2_with fail
    refine (spec_l11Forward_any b A n cap p k _ HBT.out HY.out).mono ?_
    rw [HFF.out]
    rintro e w1 ⟨rfl, hb1⟩
    go_wp2
    all_goals (go_ret; exact ⟨by first | rfl | (rw [HM.out]; rfl) | (congr 2; omega) | (simp; omega), hbw.trans (hb1.mono hbw.size)⟩)
  · rw [if_neg hr]
    have hr1 : F2 = 0 := by omega
    subst hr1
    go_enter Tryz.func150, Tryz.ntmps150
    go_wp2_with fail
    refine (spec_l11Forward_any b A n cap p k _ HBT.out HY.out).mono ?_
    rw [HFF.out]
    rintro e w1 ⟨rfl, hb1⟩
    go_wp2
    all_goals (go_ret; exact ⟨by first | rfl | (congr 2; omega) | (simp; omega), hbw.trans (hb1.mono hbw.size)⟩)

end Go.Proofs.YtbjdbpdgacfcpaaGreat
end

/- Values of assurances, whether policies are valid, premiums: the program's contracts. -/
section
namespace Go.Proofs.YtbjdbpdgacfcpaaGreat
open Go.RowKit Go.BigFrame

theorem impl_IsBasis_any (b : Bas) (A : Option Addr) (n cap : Nat) (w : World) (hB : BasT w A n cap b) :
    Calls Tryz.prog 20 #[.agg #[.int .i64 b.first, .slice A n cap, .int .i64 b.rate]] w fun e w' => e = .returned (.bool (basisB b)) ∧ Below w.heap.size w w' := by
  have hbw : Below w.heap.size w (w.alloc (.cells #[.int .i64 b.first, .slice A n cap, .int .i64 b.rate] 28)) := (Below.refl _ w).alloc (Nat.le_refl _) _
  have HB := Lib.hid (Blk.new w 28 #[.int .i64 b.first, .slice A n cap, .int .i64 b.rate])
  have HBT := Lib.hid (hB.past hbw); clear hB
  cases h1 : tableB b.first b.lives
  · have Q := Lib.hid (show basisB b = false by simp [basisB, h1])
    go_enter Tryz.func20, Tryz.ntmps20
    go_wp2_with fail
    refine (impl_IsLifeTable_any b.first A n cap b.lives _ HBT.out.lives HBT.out.cap HBT.out.first).mono ?_
    rw [h1]
    rintro e w1 ⟨rfl, hb1⟩
    go_wp2
    go_ret
    exact ⟨by rw [Q.out]; rfl, hbw.trans (hb1.mono (by simp))⟩
  · have Q := Lib.hid (show basisB b = inR b.rate 0 200 by simp [basisB, h1])
    go_enter Tryz.func20, Tryz.ntmps20
    go_wp2_with fail
    refine (impl_IsLifeTable_any b.first A n cap b.lives _ HBT.out.lives HBT.out.cap HBT.out.first).mono ?_
    rw [h1]
    rintro e w1 ⟨rfl, hb1⟩
    have c2 : w1.cell? ⟨w.heap.size, 2, none⟩ = some (.int .i64 b.rate) := (HB.out.below' hb1).cell 2
    go_wp2_with (first | (go_at_call 88; refine (impl_isRate_any _ _).mono ?_; rintro e w' ⟨rfl, rfl⟩))
    go_ret
    exact ⟨by rw [Q.out]; rfl, hbw.trans (hb1.mono (by simp))⟩

set_option maxHeartbeats 1000000 in
theorem impl_Basis_at_any (b : Bas) (A : Option Addr) (n cap : Nat) (L : Option Addr) (top lc : Nat) (age : Int) (w : World) (hR : Rd w w.heap.size L 4 (colRows b.lives b.rate top)) (hf : 0 ≤ b.first ∧ b.first ≤ 100) (ha : b.first ≤ age ∧ age ≤ 1000) (hk : b.ix age < top) (ht : top ≤ 1000) :
    Calls Tryz.prog 171 #[.agg #[.int .i64 b.first, .slice A n cap, .int .i64 b.rate], .slice L top lc, .int .i64 age] w fun e w' => e = .returned (.agg (colRow b.lives b.rate (b.ix age)).toArray) ∧ Below w.heap.size w w' := by
  have hbw : Below w.heap.size w ((w.alloc (.cells #[.int .i64 b.first, .slice A n cap, .int .i64 b.rate] 28)).alloc (.cells #[.int .i64 0, .int .i64 0, .int .i64 0, .int .i64 0] 170)) := ((Below.refl _ w).alloc (Nat.le_refl _) _).alloc (by simp) _
  obtain ⟨a1, a2⟩ := ha
  obtain ⟨f1, f2⟩ := hf
  obtain ⟨k, hk'⟩ := Int.eq_ofNat_of_zero_le (show 0 ≤ age - b.first by omega)
  have HE := Lib.hid (show b.ix age = k by unfold Bas.ix; omega)
  rw [HE.out] at hk ⊢
  have hki : (k : Int) < (top : Int) := by omega
  obtain ⟨ad, rfl, had, _, hc⟩ := hR.at' (colRows_get hk)
  have Hc := Lib.hid (fun j v hv => (hbw.cell (p := (ad.add (k * 4)).add j) (by rw [block_of_add, block_of_add]; exact had)).trans (hc j v hv)); clear hc hR
  go_enter Tryz.func171, Tryz.ntmps171
  go_wp2_with (refine wpList_load_agg rfl 170 _ rfl (ad.add (k * 4)) rfl (colRow b.lives b.rate k) Hc.out _ Tryz.underlying170 rfl Columns.size ?_)
  refine bodyPost_ret (v := .agg (colRow b.lives b.rate k).toArray) (by simp [results, Tryz.results171, go_sem]) rfl ⟨rfl, ?_⟩
  repeat (first | exact Below.refl _ _ | refine Below.alloc ?_ (by simp <;> omega) _ | refine Below.setCell ?_ (by simp <;> omega) _ | refine Below.drew ?_)

set_option maxHeartbeats 1000000 in
theorem impl_isAssurance_any (b : Bas) (A : Option Addr) (n cap : Nat) (kind age yrs sum : Int) (w : World) (hf : 0 ≤ b.first ∧ b.first ≤ 100) :
    Calls Tryz.prog 193 #[.agg #[.int .i64 b.first, .slice A n cap], .int .i64 b.rate, .int .i64 kind, .int .i64 age, .int .i64 yrs, .int .i64 sum] w fun e w' => e = .returned (.bool (assurB b kind age yrs sum)) ∧ Below w.heap.size w w' := by
  have hbw : Below w.heap.size w (w.alloc (.cells #[.int .i64 b.first, .slice A n cap] 26)) := (Below.refl _ w).alloc (Nat.le_refl _) _
  obtain ⟨f1, f2⟩ := hf
  have QE := Lib.hid (show (decide (yrs = 0) == decide (kind = 0)) = ((yrs == 0) == (kind == 0)) from rfl)
  cases h1 : inR kind 0 3
  · have Q := Lib.hid (show assurB b kind age yrs sum = false by simp [assurB, h1])
    go_enter Tryz.func193, Tryz.ntmps193
    go_wp2_with (first | (go_at_call 82; refine (impl_inRange_any _ _ _ _).mono ?_; rintro e w' ⟨rfl, rfl⟩) | (go_at_call 88; refine (impl_isRate_any _ _).mono ?_; rintro e w' ⟨rfl, rfl⟩))
    go_ret
    exact ⟨by rw [Q.out]; rfl, hbw⟩
  cases h2 : inR b.rate 0 200
  · have Q := Lib.hid (show assurB b kind age yrs sum = false by simp [assurB, h1, h2])
    go_enter Tryz.func193, Tryz.ntmps193
    go_wp2_with (first | (go_at_call 82; refine (impl_inRange_any _ _ _ _).mono ?_; rintro e w' ⟨rfl, rfl⟩) | (go_at_call 88; refine (impl_isRate_any _ _).mono ?_; rintro e w' ⟨rfl, rfl⟩))
    go_ret
    exact ⟨by rw [Q.out]; rfl, hbw⟩
  cases h3 : inR age b.first 150
  · have Q := Lib.hid (show assurB b kind age yrs sum = false by simp [assurB, h1, h2, h3])
    go_enter Tryz.func193, Tryz.ntmps193
    go_wp2_with (first | (go_at_call 82; refine (impl_inRange_any _ _ _ _).mono ?_; rintro e w' ⟨rfl, rfl⟩) | (go_at_call 88; refine (impl_isRate_any _ _).mono ?_; rintro e w' ⟨rfl, rfl⟩))
    go_ret
    exact ⟨by rw [Q.out]; rfl, hbw⟩
  obtain ⟨a1, a2⟩ := inR_true.1 h3
  cases h4 : inR sum 1 100000000
  · have Q := Lib.hid (show assurB b kind age yrs sum = false by simp [assurB, h1, h2, h3, h4])
    go_enter Tryz.func193, Tryz.ntmps193
    go_wp2_with (first | (go_at_call 82; refine (impl_inRange_any _ _ _ _).mono ?_; rintro e w' ⟨rfl, rfl⟩) | (go_at_call 88; refine (impl_isRate_any _ _).mono ?_; rintro e w' ⟨rfl, rfl⟩))
    go_ret
    exact ⟨by rw [Q.out]; rfl, hbw⟩
  cases h5 : inR yrs 0 120
  · have Q := Lib.hid (show assurB b kind age yrs sum = false by simp [assurB, h1, h2, h3, h4, h5])
    go_enter Tryz.func193, Tryz.ntmps193
    go_wp2_with (first | (go_at_call 82; refine (impl_inRange_any _ _ _ _).mono ?_; rintro e w' ⟨rfl, rfl⟩) | (go_at_call 88; refine (impl_isRate_any _ _).mono ?_; rintro e w' ⟨rfl, rfl⟩) | (go_at_call 199; refine (impl_isYears_any _ _).mono ?_; rintro e w' ⟨rfl, rfl⟩))
    go_ret
    exact ⟨by rw [Q.out]; rfl, hbw⟩
  obtain ⟨y1, y2⟩ := inR_true.1 h5
  by_cases h6 : age + yrs ≤ 150
  rotate_left
  · have Q := Lib.hid (show assurB b kind age yrs sum = false by simp [assurB, h6])
    have h6b : decide (age + yrs ≤ 150) = false := by simp; omega
    go_enter Tryz.func193, Tryz.ntmps193
    go_wp2_with (first | (go_at_call 82; refine (impl_inRange_any _ _ _ _).mono ?_; rintro e w' ⟨rfl, rfl⟩) | (go_at_call 88; refine (impl_isRate_any _ _).mono ?_; rintro e w' ⟨rfl, rfl⟩) | (go_at_call 199; refine (impl_isYears_any _ _).mono ?_; rintro e w' ⟨rfl, rfl⟩))
    go_ret
    exact ⟨by rw [Q.out]; rfl, hbw⟩
  · have Q := Lib.hid (show assurB b kind age yrs sum = ((yrs == 0) == (kind == 0)) by simp only [assurB, h1, h2, h3, h4, h5, h6, QE.out, decide_true, Bool.true_and])
    have h6b : decide (age + yrs ≤ 150) = true := by simp; omega
    obtain ⟨q, hq⟩ : ∃ q, ((yrs == 0) == (kind == 0)) = q := ⟨_, rfl⟩
    rw [hq] at Q
    go_enter Tryz.func193, Tryz.ntmps193
    go_wp2_with (first | (go_at_call 82; refine (impl_inRange_any _ _ _ _).mono ?_; rintro e w' ⟨rfl, rfl⟩) | (go_at_call 88; refine (impl_isRate_any _ _).mono ?_; rintro e w' ⟨rfl, rfl⟩) | (go_at_call 199; refine (impl_isYears_any _ _).mono ?_; rintro e w' ⟨rfl, rfl⟩))
    go_ret
    exact ⟨by rw [Q.out]; first | rfl | simp, hbw⟩

theorem impl_roundUp_any (a b c : Int) (w : World) (ha : 0 ≤ a ∧ a ≤ 1000000000000000000) (hb : 0 ≤ b ∧ b ≤ 1000000000000000000) (hc : 1 ≤ c ∧ c ≤ 1000000000000000000) (hq : a * b / c ≤ 100000000000000000) :
    Calls Tryz.prog 151 #[.int .i64 a, .int .i64 b, .int .i64 c] w fun e w' => e = .returned (.tuple #[.int .i64 (upP a b c), .bool true]) ∧ Below w.heap.size w w' := by
  have Q := Lib.hid (show mdP a b c = (a * b / c, a * b % c, true) by unfold mdP; rw [if_pos (by omega)])
  have h1 : 0 ≤ a * b / c := Int.ediv_nonneg (Int.mul_nonneg ha.1 hb.1) (by omega)
  have h2 : 0 ≤ a * b % c := Int.emod_nonneg _ (by omega)
  have QU := Lib.hid (show upP a b c = a * b / c + (if 0 < a * b % c then 1 else 0) from rfl)
  generalize a * b / c = q at *
  generalize a * b % c = r at *
  by_cases hr : 0 < r
  · rw [if_pos hr] at QU
    go_enter Tryz.func151, Tryz.ntmps151
    go_wp2_with fail
    refine (impl_multiplyDivide_any a b c _ ⟨by omega, by omega⟩ ⟨by omega, by omega⟩ ⟨by omega, by omega⟩).mono ?_
    rw [Q.out]
    rintro e w1 ⟨rfl, hb1⟩
    go_wp2
    go_ret2
    exact ⟨by rw [QU.out]; rfl, hb1⟩
  · rw [if_neg hr] at QU
    go_enter Tryz.func151, Tryz.ntmps151
    go_wp2_with fail
    refine (impl_multiplyDivide_any a b c _ ⟨by omega, by omega⟩ ⟨by omega, by omega⟩ ⟨by omega, by omega⟩).mono ?_
    rw [Q.out]
    rintro e w1 ⟨rfl, hb1⟩
    go_wp2
    go_ret2
    exact ⟨by rw [QU.out]; first | rfl | (congr 2; omega) | simp, hb1⟩
theorem impl_priced_any (a b c : Int) (w : World) (ha : 0 ≤ a ∧ a ≤ 1000000000000000000) (hb : 0 ≤ b ∧ b ≤ 1000000000000000000) (hc : 1 ≤ c ∧ c ≤ 1000000000000000000) (hq : a * b / c ≤ 100000000000000000) :
    Calls Tryz.prog 110 #[.int .i64 a, .int .i64 b, .int .i64 c] w fun e w' => e = .returned (.int .i64 (upP a b c)) ∧ Below w.heap.size w w' := by
  go_enter Tryz.func110, Tryz.ntmps110
  go_wp2_with (first | (go_at_call 151; refine (impl_roundUp_any a b c _ ha hb hc hq).mono ?_; rintro e w1 ⟨rfl, hb1⟩))
  go_ret
  exact ⟨rfl, hb1⟩


def benT (kind m1 m2 d2 : Int) : Int := if kind = 0 then m1 else if kind = 1 then m1 - m2 else if kind = 2 then m1 - m2 + d2 else d2
def benB (kind n1 n2 : Int) : Int := if kind = 0 then n1 else n1 - n2
set_option maxHeartbeats 2000000 in
theorem impl_benefits_any (kind d1 n1 c1 m1 d2 n2 c2 m2 : Int) (w : World) (hn1 : 0 ≤ n1 ∧ n1 ≤ 200000000000000000) (hm1 : 0 ≤ m1 ∧ m1 ≤ 200000000000000000) (hn2 : 0 ≤ n2 ∧ n2 ≤ 200000000000000000) (hm2 : 0 ≤ m2 ∧ m2 ≤ 200000000000000000) (hd2 : 0 ≤ d2 ∧ d2 ≤ 200000000000000000) :
    Calls Tryz.prog 172 #[.int .i64 kind, .agg #[.int .i64 d1, .int .i64 n1, .int .i64 c1, .int .i64 m1], .agg #[.int .i64 d2, .int .i64 n2, .int .i64 c2, .int .i64 m2]] w fun e w' =>
      e = .returned (.tuple #[.int .i64 (benT kind m1 m2 d2), .int .i64 (benB kind n1 n2)]) ∧ Below w.heap.size w w' := by
  obtain ⟨a1, a2⟩ := hn1
  obtain ⟨a3, a4⟩ := hm1
  obtain ⟨a5, a6⟩ := hn2
  obtain ⟨a7, a8⟩ := hm2
  obtain ⟨a9, a10⟩ := hd2
  have hbw := boxes_below (w := w) (X := [.int .i64 d1, .int .i64 n1, .int .i64 c1, .int .i64 m1]) (Y := [.int .i64 d2, .int .i64 n2, .int .i64 c2, .int .i64 m2]) (tx := 170) (ty := 170)
  have HX := Lib.hid ((Blk.new w 170 #[.int .i64 d1, .int .i64 n1, .int .i64 c1, .int .i64 m1]).alloc (.cells #[.int .i64 d2, .int .i64 n2, .int .i64 c2, .int .i64 m2] 170))
  have HY := Lib.hid (Blk.new (w.alloc (.cells #[.int .i64 d1, .int .i64 n1, .int .i64 c1, .int .i64 m1] 170)) 170 #[.int .i64 d2, .int .i64 n2, .int .i64 c2, .int .i64 m2])
  rw [World.size_alloc] at HY
  obtain ⟨W, hW⟩ : ∃ W, ((w.alloc (.cells #[.int .i64 d1, .int .i64 n1, .int .i64 c1, .int .i64 m1] 170)).alloc (.cells #[.int .i64 d2, .int .i64 n2, .int .i64 c2, .int .i64 m2] 170)) = W := ⟨_, rfl⟩
  have hbW : Below w.heap.size w W := by rw [← hW]; exact hbw
  rw [hW] at HX HY
  have q1 := fun y : Past W => Past.cell (p := ⟨w.heap.size, 1, none⟩) (v := .int .i64 n1) (HX.out.cell 1) y
  have q3 := fun y : Past W => Past.cell (p := ⟨w.heap.size, 3, none⟩) (v := .int .i64 m1) (HX.out.cell 3) y
  have q4 := fun y : Past W => Past.cell (p := ⟨w.heap.size + 1, 0, none⟩) (v := .int .i64 d2) (HY.out.cell 0) y
  have q5 := fun y : Past W => Past.cell (p := ⟨w.heap.size + 1, 1, none⟩) (v := .int .i64 n2) (HY.out.cell 1) y
  have q7 := fun y : Past W => Past.cell (p := ⟨w.heap.size + 1, 3, none⟩) (v := .int .i64 m2) (HY.out.cell 3) y
  have HW := Lib.hid hW; clear hW hbw
  by_cases h0 : kind = 0
  · subst h0
    have Q := Lib.hid (show benT 0 m1 m2 d2 = m1 ∧ benB 0 n1 n2 = n1 by simp [benT, benB])
    go_enter Tryz.func172, Tryz.ntmps172
    go_wp2
    rw [HW.out]
    refine wp_region_past (by kernel_rfl) (by kernel_rfl) ?_
    repeat (go_big_quiet_step (fail))
    refine wpQuiet_nil ?_
    rintro _ ⟨y, rfl⟩
    go_wp2
    go_ret2
    exact ⟨by rw [Q.out.1, Q.out.2]; rfl, hbW.trans (y.2.mono hbW.size)⟩
  by_cases h1 : kind = 1
  · subst h1
    have Q := Lib.hid (show benT 1 m1 m2 d2 = m1 - m2 ∧ benB 1 n1 n2 = n1 - n2 by simp [benT, benB])
    go_enter Tryz.func172, Tryz.ntmps172
    go_wp2
    rw [HW.out]
    refine wp_region_past (by kernel_rfl) (by kernel_rfl) ?_
    repeat (go_big_quiet_step (fail))
    refine wpQuiet_nil ?_
    rintro _ ⟨y, rfl⟩
    go_wp2
    go_ret2
    exact ⟨by rw [Q.out.1, Q.out.2]; rfl, hbW.trans (y.2.mono hbW.size)⟩
  by_cases h2 : kind = 2
  · subst h2
    have Q := Lib.hid (show benT 2 m1 m2 d2 = m1 - m2 + d2 ∧ benB 2 n1 n2 = n1 - n2 by simp [benT, benB])
    go_enter Tryz.func172, Tryz.ntmps172
    go_wp2
    rw [HW.out]
    refine wp_region_past (by kernel_rfl) (by kernel_rfl) ?_
    repeat (go_big_quiet_step (fail))
    refine wpQuiet_nil ?_
    rintro _ ⟨y, rfl⟩
    go_wp2
    go_ret2
    exact ⟨by rw [Q.out.1, Q.out.2]; rfl, hbW.trans (y.2.mono hbW.size)⟩
  have Q := Lib.hid (show benT kind m1 m2 d2 = d2 ∧ benB kind n1 n2 = n1 - n2 by simp [benT, benB, h0, h1, h2])
  go_enter Tryz.func172, Tryz.ntmps172
  go_wp2
  rw [HW.out]
  refine wp_region_past (by kernel_rfl) (by kernel_rfl) ?_
  repeat (go_big_quiet_step (fail))
  refine wpQuiet_nil ?_
  rintro _ ⟨y, rfl⟩
  go_wp2
  go_ret2
  exact ⟨by rw [Q.out.1, Q.out.2]; rfl, hbW.trans (y.2.mono hbW.size)⟩

end Go.Proofs.YtbjdbpdgacfcpaaGreat
end
