/- A ladder of bonds: the least nominal of a need, and the reference's ladder. -/
import Derived.Test.YtlbllonpodckgaaLadderP
import Derived.Test.YtlbllonpodckgaaFlow
import Derived.Test.YtlbllonpodckgaaKept
import Derived.Test.YtlbllonpodckgaaApp
namespace Go.Proofs.Ytlbllonpodckgaa
open Go.RowKit Go.BigFrame

set_option maxHeartbeats 1000000 in
theorem impl_leastNominal_any (a c : Int) (w : World) (hc : 0 ≤ c ∧ c ≤ 200) (ha : -10000000000 ≤ a ∧ a ≤ 1000000000) :
    Calls Try.prog 40 #[.int .i64 a, .int .i64 c] w fun e w' => e = .returned (.int .i64 (nomP a c)) ∧ w = w' := by
  obtain ⟨c1, c2⟩ := hc
  obtain ⟨a1, a2⟩ := ha
  have n0 := nom_nonneg a c
  have n1 := nom_bound (a := a) ⟨c1, c2⟩ a2
  have HN := Lib.hid (fun (n : Int) (hn : 0 ≤ n) => nom_le (a := a) ⟨c1, c2⟩ hn)
  have hn2 : nomP a c ≤ max 0 a := by
    rw [HN.out _ (by omega)]
    have := Int.mul_nonneg (show 0 ≤ max 0 a by omega) c1
    omega
  obtain ⟨h, hh⟩ : ∃ h, (if 0 < a then a else 0) = h := ⟨_, rfl⟩
  have hhm : h = max 0 a := by rw [← hh]; split <;> omega
  have HH := Lib.hid hhm
  have h1 : 0 ≤ h := by omega
  have h2 : h ≤ 1000000000 := by omega
  have hn3 : nomP a c ≤ h := by omega
  clear hhm hn2
  go_enter Try.func40, Try.ntmps40
  go_wp2
  go_loop [5, 6] (fun x y => ∃ lo hi : Int, x = .int .i64 lo ∧ y = .int .i64 hi ∧ 0 ≤ lo ∧ lo ≤ nomP a c ∧ nomP a c ≤ hi ∧ hi ≤ 1000000000) (fun x y => (intOf y - intOf x).toNat)
  case atStart => exact ⟨0, h, rfl, by first | rfl | (rw [HH.out]; congr 1; split <;> omega) | (rw [← hh]), by omega, by omega, by omega, by omega⟩
  case round =>
    obtain ⟨lo, hi, rfl, rfl, l0, l1, h3, h4⟩ := hrel
    by_cases hlt : lo < hi
    · obtain ⟨m, hm⟩ : ∃ m, (lo + hi) / 2 = m := ⟨_, rfl⟩
      have m1 : lo ≤ m := by omega
      have m2 : m < hi := by omega
      have HM := Lib.hid hm
      obtain ⟨⟨p1, p2⟩, p3, p4⟩ := coupon_bound (n := m) ⟨c1, c2⟩ ⟨by omega, by omega⟩
      have HL := Lib.hid (HN.out m (by omega))
      by_cases hle : a ≤ m + m * c / 1000
      · have hle2 := HL.out.2 hle
        go_wp2_with (first | (go_at_call 41; refine (impl_perMille_any m c ⟨by omega, by omega⟩ _).mono ?_; rintro e w' ⟨rfl, rfl⟩))
        go_round
        case rel => exact ⟨lo, m, rfl, rfl, l0, l1, hle2, by omega⟩
        case measure => simp [intOf]; omega
      · have hle2 : m < nomP a c := by
          rcases Int.lt_or_le m (nomP a c) with h | h
          · exact h
          · exact absurd (HL.out.1 h) hle
        go_wp2_with (first | (go_at_call 41; refine (impl_perMille_any m c ⟨by omega, by omega⟩ _).mono ?_; rintro e w' ⟨rfl, rfl⟩))
        go_round
        case rel => exact ⟨m + 1, hi, rfl, rfl, by omega, by omega, h3, h4⟩
        case measure => simp [intOf]; omega
    · have e : lo = nomP a c := by omega
      subst e
      go_wp2
      go_ret
      exact ⟨rfl, rfl⟩

set_option maxHeartbeats 1000000 in
theorem spec_l20Nominal_any (a c : Int) (w : World) (hc : 0 ≤ c ∧ c ≤ 200) (ha : -10000000000 ≤ a ∧ a ≤ 1000000000) :
    Calls Try.prog 36 #[.int .i64 a, .int .i64 c] w fun e w' => e = .returned (.int .i64 (nomP a c)) ∧ w = w' := by
  have hst := nom_start (a := a) hc
  obtain ⟨c1, c2⟩ := hc
  obtain ⟨a1, a2⟩ := ha
  have n0 := nom_nonneg a c
  have n1 := nom_bound (a := a) ⟨c1, c2⟩ a2
  have HN := Lib.hid (fun (n : Int) (hn : 0 ≤ n) => nom_le (a := a) ⟨c1, c2⟩ hn)
  obtain ⟨q, hq⟩ : ∃ q, (a * 1000).tdiv (1000 + c) = q := ⟨_, rfl⟩
  rw [hq] at hst
  have hqb := tdiv_bounds (a := a * 1000) (b := 1000 + c) (by omega) (by omega) (by omega)
  rw [hq] at hqb
  obtain ⟨qb1, qb2⟩ := hqb
  have hz : ¬ 1000 + c = 0 := by omega
  rcases Int.lt_or_le 0 (q - 2) with hq2 | hq2
  all_goals
    go_enter Try.func36, Try.ntmps36
    go_wp2
    go_loop [5] (fun x => ∃ n : Int, x = .int .i64 n ∧ 0 ≤ n ∧ n ≤ nomP a c) (fun x => (1000000001 - intOf x).toNat)
    case atStart => exact ⟨_, rfl, by omega, by omega⟩
    case round =>
      obtain ⟨n, rfl, l0, l1⟩ := hrel
      obtain ⟨⟨p1, p2⟩, p3, p4⟩ := coupon_bound (n := n) ⟨c1, c2⟩ ⟨by omega, by omega⟩
      have HL := Lib.hid (HN.out n l0)
      by_cases hlt : n + n * c / 1000 < a
      · have hle2 : n < nomP a c := by
          rcases Int.lt_or_le n (nomP a c) with h | h
          · exact h
          · have := HL.out.1 h; omega
        go_wp2
        go_round
        case rel => exact ⟨n + 1, rfl, by omega, by omega⟩
        case measure => simp [intOf]; omega
      · have hle2 := HL.out.2 (by omega)
        have e : n = nomP a c := by omega
        subst e
        go_wp2
        go_ret
        exact ⟨rfl, rfl⟩

theorem Res.one (w : World) (B : Nat) (t : TypeId) (sz : Nat) (r : List Value) (hl : r.length = sz) (hB : B ≤ w.heap.size) :
    Res B (w.alloc (.cells r.toArray t)) t sz (some ⟨w.heap.size, 0, none⟩) 1 1 [r] := by
  subst hl
  exact ⟨⟨by simp, .inr ⟨w.heap.size, 1, r.toArray, rfl, hB, Blk.new w t _, Nat.le_refl _, by unfold maxLen; omega, by simp, by simp⟩⟩, rfl, by simp⟩
theorem Res.none_zero {w : World} {B : Nat} {t : TypeId} {sz n cap : Nat} {A : Option Addr} {rows : List (List Value)} (h : Res B w t sz A n cap rows) (hA : A = none) : n = 0 := by
  subst hA
  rcases h.own.2 with ⟨h1, h2⟩ | ⟨g, c, cur, e, _⟩
  · exact h2
  · injection e with e; cases e
theorem bondRows_cons (b : Bond) (l : List Bond) : bondRows (b :: l) = [b.row] ++ bondRows l := rfl

set_option maxHeartbeats 2000000 in
theorem spec_BuildLadder_any (A : Option Addr) (n cap : Nat) (ys : List Int) (c : Int) (w : World) (hl : ys.length = n) (hn : n ≤ 1048576) (hY : Rd w w.heap.size A 1 (intRows ys)) (_hf : ∀ y ∈ ys, In64 y) (_hc : In64 c) :
    Calls Try.prog 12 #[.slice A n cap, .int .i64 c] w fun e w' => ∃ A' n' c', e = .returned (.tuple #[.slice A' n' c', .int .i64 (ladderP ys c).2]) ∧ Res w.heap.size w' 66 3 A' n' c' (bondRows (ladderP ys c).1) ∧ Below w.heap.size w w' := by
  have HY := Lib.hid hY; clear hY
  have HL := Lib.hid hl; clear hl
  by_cases h1 : needsB ys = true
  rotate_left
  · have Q := Lib.hid (show ladderP ys c = ([], 2) by unfold ladderP; rw [if_neg (fun h => h1 h.1)])
    have h1' : needsB ys = false := by simpa using h1
    clear h1
    go_enter Try.func12, Try.ntmps12
    go_wp2_with (first | (go_at_call 34; refine (spec_l20Needs_any A n cap ys _ HL.out hn HY.out).mono ?_; rintro e w' ⟨rfl, rfl⟩))
    go_ret2
    exact ⟨none, 0, 0, by rw [Q.out]; rfl, by rw [Q.out]; exact Res.nil_, Below.refl _ _⟩
  have H1 := Lib.hid h1
  by_cases h2 : n ≤ 30
  rotate_left
  · have Q := Lib.hid (show ladderP ys c = ([], 2) by unfold ladderP; rw [if_neg (fun h => h2 (by rw [← HL.out]; exact h.2.1))])
    go_enter Try.func12, Try.ntmps12
    go_wp2_with (first | (go_at_call 34; refine (spec_l20Needs_any A n cap ys _ HL.out hn HY.out).mono ?_; rintro e w' ⟨rfl, rfl⟩))
    go_ret2
    exact ⟨none, 0, 0, by rw [Q.out]; rfl, by rw [Q.out]; exact Res.nil_, Below.refl _ _⟩
  by_cases h3 : inR c 0 200 = true
  rotate_left
  · have Q := Lib.hid (show ladderP ys c = ([], 2) by unfold ladderP; rw [if_neg (fun h => h3 h.2.2)])
    have h3' : inR c 0 200 = false := by simpa using h3
    clear h3
    go_enter Try.func12, Try.ntmps12
    go_wp2_with (first | (go_at_call 34; refine (spec_l20Needs_any A n cap ys _ HL.out hn HY.out).mono ?_; rintro e w' ⟨rfl, rfl⟩) | (go_at_call 35; refine (spec_l01In_any _ _ _ _).mono ?_; rintro e w' ⟨rfl, rfl⟩))
    go_ret2
    exact ⟨none, 0, 0, by rw [Q.out]; rfl, by rw [Q.out]; exact Res.nil_, Below.refl _ _⟩
  have Q := Lib.hid (show ladderP ys c = ((ladS c ys n).1, 0) by unfold ladderP; rw [if_pos ⟨h1, by rw [HL.out]; exact h2, h3⟩, HL.out])
  obtain ⟨c1, c2⟩ := inR_true.1 h3
  have HV := Lib.hid (show ∀ y ∈ ys, 0 ≤ y ∧ y ≤ 1000000000 by
    have := H1.out
    simp only [needsB, Bool.and_eq_true, decide_eq_true_eq, allR, List.all_eq_true] at this
    exact fun y hy => inR_true.1 (this.2 y hy))
  have HS := Lib.hid (ladS_bound (c := c) (ys := ys) ⟨c1, c2⟩ HV.out)
  have HND := Lib.hid (need_bound HV.out)
  have HR0 := Lib.hid (Res.zero w w.heap.size 66 3 (Nat.le_refl _))
  obtain ⟨i0, hi0, hz0, hz1, hz2⟩ := info_parts Bond.info
  have HI := Lib.hid (And.intro hi0 (And.intro hz0 (And.intro hz1 hz2))); clear hi0 hz0 hz1 hz2
  go_enter Try.func12, Try.ntmps12
  go_wp2_with (first | (go_at_call 34; refine (spec_l20Needs_any A n cap ys _ HL.out hn HY.out).mono ?_; rintro e w' ⟨rfl, rfl⟩) | (go_at_call 35; refine (spec_l01In_any _ _ _ _).mono ?_; rintro e w' ⟨rfl, rfl⟩))
  go_loopw [6, 7, 8] (fun o s i wr => ∃ (r m : Nat) (A' : Option Addr) (c' : Nat), r ≤ n ∧ i = .int .i64 ((r : Int) - 1) ∧ s = .int .i64 (ladS c ys (n - r)).2 ∧ o = .slice A' m c' ∧ Res w.heap.size wr 66 3 A' m c' (bondRows (ladS c ys (n - r)).1) ∧ Below w.heap.size w wr) (fun _ _ i _ => (intOf i + 1).toNat)
  case atStart => exact ⟨n, 0, _, _, by omega, rfl, by rw [Nat.sub_self]; rfl, rfl, by rw [Nat.sub_self]; exact HR0.out, (Below.refl _ _).alloc (Nat.le_refl _) _⟩
  case round =>
    obtain ⟨r, m, A', c', hk, rfl, rfl, rfl, hR, hb⟩ := hrel
    have HR := Lib.hid hR; clear hR
    cases r with
    | zero =>
      rw [show (((0 : Nat) : Int) - 1) = -1 from rfl]
      go_wp2
      go_ret2
      exact ⟨A', m, c', by rw [Q.out]; rfl, by rw [Q.out]; exact HR.out, hb⟩
    | succ r =>
      rw [show (((r + 1 : Nat) : Int) - 1) = (r : Int) by omega]
      obtain ⟨z, hz⟩ := get_of_lt (xs := ys) (k := r) (by rw [HL.out]; omega)
      obtain ⟨ad, rfl, had, hcz⟩ := (HY.out.past hb).int_at hz
      obtain ⟨z1, z2⟩ := HV.out z (List.mem_of_getElem? hz)
      have hidx : ys.length - 1 - (n - (r + 1)) = r := by rw [HL.out]; omega
      have hgz : ys.getD r 0 = z := by simp [hz]
      obtain ⟨⟨s1, s2⟩, s3⟩ := HS.out (n - (r + 1))
      have hmm : m ≤ 30 := by have h1 := HR.out.len; rw [bondRows_length] at h1; omega
      obtain ⟨S, hS⟩ : ∃ S, ladS c ys (n - (r + 1)) = S := ⟨_, rfl⟩
      have HSt := Lib.hid (show ladS c ys (n - r) = (if 0 < nomP (z - S.2) c then (⟨nomP (z - S.2) c, c, (r : Int) + 1⟩ :: S.1, S.2 + nomP (z - S.2) c * c / 1000) else S) by
        rw [show n - r = (n - (r + 1)) + 1 by omega, ladS, hidx, hgz, hS])
      rw [hS] at s1 s2 HR ⊢
      clear hS hz hgz hidx s3
      have hs200 : S.2 ≤ 6000000000 := by omega
      have hr30 : (r : Int) < 30 := by omega
      have n0 := nom_nonneg (z - S.2) c
      have n1 := nom_bound (a := z - S.2) ⟨c1, c2⟩ (by omega)
      have hsz : w.heap.size ≤ wr.heap.size := hb.size
      have hgr : ¬ ((r : Int) < 0) := by omega
      by_cases hp : 0 < nomP (z - S.2) c
      · rw [if_pos hp] at HSt
        obtain ⟨⟨p1, p2⟩, p3, p4⟩ := coupon_bound (n := nomP (z - S.2) c) ⟨c1, c2⟩ ⟨by omega, by omega⟩
        go_wp2_with (first | (go_at_call 36; refine (spec_l20Nominal_any (z - S.2) c _ ⟨c1, c2⟩ ⟨by omega, by omega⟩).mono ?_; rintro e w' ⟨rfl, rfl⟩) | (at_builtin; refine wpList_append_res _ rfl (.tmp 46) (.tmp 47) 34 rfl w.heap.size 66 i0 _ 3 24 Try.underlying34 HI.out.1 HI.out.2.1 HI.out.2.2.1 HI.out.2.2.2 rfl (by decide) _ 1 1 _ rfl (Res.one wr w.heap.size 66 3 [.int .i64 (nomP (z - S.2) c), .int .i64 c, .int .i64 ((r : Int) + 1)] rfl hsz) _ A' m c' (bondRows S.1) rfl HR.out.none_zero (HR.out.rd.alloc (Nat.le_refl _) _) HR.out.len (bondRows_all _) (fun q hq u hu => by obtain ⟨x, _, rfl⟩ := List.mem_map.1 hq; exact x.oneCell u hu) (by omega) (by omega) (by simp; omega) ?_))
        intro B2 c3 w3 hR3 hb5
        have HR3 := Lib.hid hR3; clear hR3
        have hb6 : Below w.heap.size w w3 := (hb.alloc hsz _).trans hb5
        go_wp2
        go_roundw
        case rel => exact ⟨r, 1 + m, B2, c3, by omega, by go_num, by rw [HSt.out], by rfl, by rw [HSt.out, bondRows_cons]; exact HR3.out, hb6⟩
        case measure => simp [intOf]
      · rw [if_neg hp] at HSt
        have hp0 : nomP (z - S.2) c = 0 := by omega
        have HP0 := Lib.hid hp0
        go_wp2_with (first | (go_at_call 36; refine (spec_l20Nominal_any (z - S.2) c _ ⟨c1, c2⟩ ⟨by omega, by omega⟩).mono ?_; rintro e w' ⟨rfl, rfl⟩))
        go_roundw
        case rel => exact ⟨r, m, A', c', by omega, by go_num, by rw [HSt.out], rfl, by rw [HSt.out]; exact HR.out, hb⟩
        case measure => simp [intOf]
end Go.Proofs.Ytlbllonpodckgaa
