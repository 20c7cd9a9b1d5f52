/- Parts of a proof, one after another: Wts, Misc, Share3, Cash, BonQ. No condition. -/
import Derived.Test.YtbjdbpdgacfcpaaGreatK0
import Derived.Test.YtbjdbpdgacfcpaaGreatK1
import Derived.Test.YtbjdbpdgacfcpaaGreatK2
import Derived.Test.YtbjdbpdgacfcpaaGreatK10
import Derived.Test.YtbjdbpdgacfcpaaGreatK18
import Derived.Test.YtbjdbpdgacfcpaaGreatK21
import Derived.Deep.RegionLaw
/- The weights by which a bonus is divided: the program's and the reference's contracts. -/
section
namespace Go.Proofs.YtbjdbpdgacfcpaaGreat
open Go.RowKit Go.BigFrame

theorem bonusWeights1_any (x p : Int) (q : Addr) (w : World) (hp : w.cell? q = some (.int .i64 p)) (hx : 0 ≤ x ∧ x ≤ 20000000000000000) (h1 : 1 ≤ p ∧ p ≤ 10000000000) :
    Calls Tryz.prog 162 #[.int .i64 x, .pointer (some q)] w fun e w' => e = .returned (.bool (decide (1000000000 < x / p))) ∧ w = w' := by
  obtain ⟨x0, x1⟩ := hx
  obtain ⟨p0, p1⟩ := h1
  have h3 : x / p ≤ x := Int.ediv_le_self _ x0
  have h4 : 0 ≤ x / p := Int.ediv_nonneg x0 (by omega)
  go_enter Tryz.func162, Tryz.ntmps162
  go_wp2
  go_ret
  exact ⟨by first | rfl | (congr 2; simp), rfl⟩

set_option maxHeartbeats 1000000 in
theorem indexW_any (A : Option Addr) (n cap : Nat) (xs : List Int) (p : Int) (q : Addr) (w : World) (hl : xs.length = n) (hn : n ≤ 1048576) (hX : Rd w w.heap.size A 1 (intRows xs)) (hp : w.cell? q = some (.int .i64 p)) (hxs : ∀ x ∈ xs, 0 ≤ x ∧ x ≤ 20000000000000000) (h1 : 1 ≤ p ∧ p ≤ 10000000000) :
    Calls Tryz.prog 187 #[.slice A n cap, .func (.func 162) #[] #[.pointer (some q)]] w fun e w' => ∃ i : Int, e = .returned (.int .i64 i) ∧ (xs.any (fun x => decide (1000000000 < x / p)) = decide (0 ≤ i)) ∧ w = w' := by
  have HX := Lib.hid hX; clear hX
  have HL := Lib.hid hl; clear hl
  have HF := Lib.hid hxs; clear hxs
  go_enter Tryz.func187, Tryz.ntmps187
  go_wp2
  go_loop [8] (fun i => ∃ k : Nat, k ≤ n ∧ i = .int .i64 k ∧ (xs.take k).any (fun x => decide (1000000000 < x / p)) = false) (fun i => n - (intOf i).toNat)
  case atStart => exact ⟨0, by omega, rfl, rfl⟩
  case round =>
    obtain ⟨k, hk, rfl, hany⟩ := hrel
    have HA := Lib.hid hany; clear hany
    by_cases hlt : k < n
    · obtain ⟨x, hx⟩ := get_of_lt (xs := xs) (k := k) (by rw [HL.out]; exact hlt)
      obtain ⟨ad, rfl, had, hc⟩ := HX.out.int_at hx
      have Hx := Lib.hid hx; clear hx
      go_wp2_with fail
      refine (bonusWeights1_any x p q _ hp (HF.out x (List.mem_of_getElem? Hx.out)) h1).mono ?_
      rintro e w1 ⟨rfl, rfl⟩
      by_cases hb : 1000000000 < x / p
      · go_wp2
        go_ret
        exact ⟨_, rfl, by rw [any_stop Hx.out (by simpa using hb)]; simp, rfl⟩
      · have HNB := Lib.hid hb
        go_wp2
        go_round
        case rel => exact ⟨k + 1, by omega, by go_num, any_succ HA.out Hx.out (by simpa using HNB.out)⟩
        case measure => simp [intOf]; omega
    · have hkn : k = n := by omega
      subst hkn
      go_wp2
      go_ret
      exact ⟨_, rfl, by rw [any_end HL.out HA.out]; simp, rfl⟩

theorem containsW_any (A : Option Addr) (n cap : Nat) (xs : List Int) (p : Int) (q : Addr) (w : World) (hl : xs.length = n) (hn : n ≤ 1048576) (hX : Rd w w.heap.size A 1 (intRows xs)) (hp : w.cell? q = some (.int .i64 p)) (hxs : ∀ x ∈ xs, 0 ≤ x ∧ x ≤ 20000000000000000) (h1 : 1 ≤ p ∧ p ≤ 10000000000) :
    Calls Tryz.prog 161 #[.slice A n cap, .func (.func 162) #[] #[.pointer (some q)]] w fun e w' => e = .returned (.bool (decide (1000000000 < mostL xs / p))) ∧ w = w' := by
  have HX := Lib.hid hX; clear hX
  have HL := Lib.hid hl; clear hl
  have HM := Lib.hid (any_most h1.1 (fun x hx => (hxs x hx).1))
  have HF := Lib.hid hxs; clear hxs
  go_enter Tryz.func161, Tryz.ntmps161
  go_wp2_with fail
  refine (indexW_any A n cap xs p q w HL.out hn HX.out hp HF.out h1).mono ?_
  rintro e w1 ⟨i, rfl, hi, rfl⟩
  have Hi := Lib.hid hi; clear hi
  go_wp2
  go_ret
  exact ⟨by rw [← HM.out, Hi.out]; rfl, rfl⟩


set_option maxRecDepth 100000 in
set_option maxHeartbeats 8000000 in
theorem impl_bonusWeights_any (b : Bas) (A : Option Addr) (n cap : Nat) (H : Option Addr) (m hcap : Nat) (xs : List Holding) (w : World) (hB : BasT w A n cap b) (hl : xs.length = m) (hm : m ≤ 30) (hX : Rd w w.heap.size H 7 (holdingRows xs)) (hh : ∀ x ∈ xs, holdB b x = true) :
    Calls Tryz.prog 126 #[.agg #[.int .i64 b.first, .slice A n cap, .int .i64 b.rate], .slice H m hcap] w fun e w' => ∃ A' c', e = .returned (.slice A' m c') ∧ Res (w.heap.size + 1) w' 2 1 A' m c' (intRows (weightsL b xs)) ∧ Below w.heap.size w w' := by
  obtain ⟨i0, hi0, hz0, hz1, hz2⟩ := info_parts Int64.info
  have HI := Lib.hid (And.intro hi0 (And.intro hz0 (And.intro hz1 hz2))); clear hi0 hz0 hz1 hz2
  have hbw : Below w.heap.size w (w.alloc (.cells #[.int .i64 b.first, .slice A n cap, .int .i64 b.rate] 28)) := (Below.refl _ w).alloc (Nat.le_refl _) _
  have HB := Lib.hid (Blk.new w 28 #[.int .i64 b.first, .slice A n cap, .int .i64 b.rate])
  have HBT := Lib.hid (hB.past hbw); clear hB
  have HX := Lib.hid (hX.past hbw); clear hX
  have HL := Lib.hid hl; clear hl
  have HH := Lib.hid hh; clear hh
  have HWB := Lib.hid (wtL_bound HH.out)
  have HWL := Lib.hid (show (wtL b xs).length = m by rw [wtL, List.length_map]; exact HL.out)
  have HMB := Lib.hid (mostL_bound (ws := wtL b xs) (hi := 20000000000000000) (by omega) HWB.out)
  have HR0 := Lib.hid (Res.zero_at (w := (w.alloc (.cells #[.int .i64 b.first, .slice A n cap, .int .i64 b.rate] 28))) (B := w.heap.size + 1) (t := 2) (sz := 1) (g := w.heap.size + 1) (by simp) (by simp))
  go_enter Tryz.func126, Tryz.ntmps126
  go_wp2
  go_loopw [5, 13] (fun o i wr => ∃ (k : Nat) (A' : Option Addr) (c' : Nat), k ≤ m ∧ i = .int .i64 k ∧ o = .slice A' k c' ∧ Res (w.heap.size + 1) wr 2 1 A' k c' (intRows ((wtL b xs).take k)) ∧ Below (w.heap.size + 1) (w.alloc (.cells #[.int .i64 b.first, .slice A n cap, .int .i64 b.rate] 28)) wr) (fun _ i _ => m - (intOf i).toNat)
  case atStart => exact ⟨0, _, _, by omega, rfl, rfl, HR0.out, (Below.refl _ _).alloc (by simp) _⟩
  case round =>
    obtain ⟨k, A', c', hk, rfl, rfl, hR, hb⟩ := hrel
    have HR := Lib.hid hR; clear hR
    have hbs : w.heap.size + 1 ≤ wr.heap.size := by have := hb.size; simpa using this
    by_cases hlt : k < m
    · obtain ⟨x, hx⟩ := get_of_lt (xs := xs) (k := k) (by rw [HL.out]; exact hlt)
      have hbr : Below (w.alloc (.cells #[.int .i64 b.first, .slice A n cap, .int .i64 b.rate] 28)).heap.size (w.alloc (.cells #[.int .i64 b.first, .slice A n cap, .int .i64 b.rate] 28)) wr := by rw [World.size_alloc]; exact hb
      obtain ⟨ad, rfl, had, _, hc⟩ := (HX.out.past hbr).at' (holdingRows_get hx)
      have HE := Lib.hid (take_succ_snoc (wtL_get (b := b) hx))
      have Hx := Lib.hid (HH.out x (List.mem_of_getElem? hx)); clear hx
      have Hc := Lib.hid hc; clear hc
      obtain ⟨v0, v1⟩ := resV_bound Hx.out
      obtain ⟨y0, y1⟩ := hold_year Hx.out
      obtain ⟨u0, u1⟩ := wtV_bound Hx.out
      unfold wtV at u0 u1
      have hwr : IntKind.i64.wrap (resV b x * x.year) = resV b x * x.year := IntWalk.i64_in _ (by omega)
      have hbn : Below wr.heap.size wr (wr.alloc (.cells #[.int .i64 x.kind, .int .i64 x.age, .int .i64 x.years, .int .i64 x.sum, .int .i64 x.load, .int .i64 x.year, .int .i64 x.count] 90)) := (Below.refl _ wr).alloc (Nat.le_refl _) _
      have HBn := Lib.hid ((HB.out.below' hbr).below' hbn)
      have HBTn := Lib.hid ((HBT.out.past hbr).past hbn)
      have HNn := Lib.hid (Blk.new wr 90 #[.int .i64 x.kind, .int .i64 x.age, .int .i64 x.years, .int .i64 x.sum, .int .i64 x.load, .int .i64 x.year, .int .i64 x.count])
      have HRn := Lib.hid (HR.out.past hbn)
      have hcB := Lib.hid (Blk.agg_past (cs := [.int .i64 b.first, .slice A n cap, .int .i64 b.rate]) HBn.out 0 [.int .i64 b.first, .slice A n cap, .int .i64 b.rate] rfl)
      have hcN := Lib.hid (Blk.agg_past (cs := [.int .i64 x.kind, .int .i64 x.age, .int .i64 x.years, .int .i64 x.sum, .int .i64 x.load, .int .i64 x.year, .int .i64 x.count]) HNn.out 0 [.int .i64 x.kind, .int .i64 x.age, .int .i64 x.years, .int .i64 x.sum, .int .i64 x.load, .int .i64 x.year, .int .i64 x.count] rfl)
      have d5 := fun y : Past (wr.alloc (.cells #[.int .i64 x.kind, .int .i64 x.age, .int .i64 x.years, .int .i64 x.sum, .int .i64 x.load, .int .i64 x.year, .int .i64 x.count] 90)) => Past.cell (p := ⟨wr.heap.size, 5, none⟩) (v := .int .i64 x.year) (HNn.out.cell 5) y
      have hk63 : (k : Int) < 1048576 := by omega
      have hbN := hb.trans (hbn.mono hbs)
      go_wp2_with (refine wpList_load_agg rfl 90 _ rfl (ad.add (k * 7)) rfl [.int .i64 x.kind, .int .i64 x.age, .int .i64 x.years, .int .i64 x.sum, .int .i64 x.load, .int .i64 x.year, .int .i64 x.count] Hc.out _ Tryz.underlying90 rfl Holding.size ?_)
      have HS := Lib.hid (show ∀ w', (∀ g, g < w.heap.size + 1 ∨ g = wr.heap.size → w'.heap[g]? = (wr.alloc (.cells #[.int .i64 x.kind, .int .i64 x.age, .int .i64 x.years, .int .i64 x.sum, .int .i64 x.load, .int .i64 x.year, .int .i64 x.count] 90)).heap[g]?) → Below (w.heap.size + 1) (w.alloc (.cells #[.int .i64 b.first, .slice A n cap, .int .i64 b.rate] 28)) w' → Below (w.heap.size + 1) (w.alloc (.cells #[.int .i64 b.first, .slice A n cap, .int .i64 b.rate] 28)) w' ∧ w'.cell? ⟨w.heap.size, 0, none⟩ = some (.int .i64 b.first) ∧ w'.cell? ⟨w.heap.size, 1, none⟩ = some (.slice A n cap) ∧ w'.cell? ⟨w.heap.size, 2, none⟩ = some (.int .i64 b.rate) ∧ w'.cell? ⟨wr.heap.size, 0, none⟩ = some (.int .i64 x.kind) ∧ w'.cell? ⟨wr.heap.size, 1, none⟩ = some (.int .i64 x.age) ∧ w'.cell? ⟨wr.heap.size, 2, none⟩ = some (.int .i64 x.years) ∧ w'.cell? ⟨wr.heap.size, 3, none⟩ = some (.int .i64 x.sum) ∧ w'.cell? ⟨wr.heap.size, 4, none⟩ = some (.int .i64 x.load) ∧ w'.cell? ⟨wr.heap.size, 5, none⟩ = some (.int .i64 x.year) ∧ w'.cell? ⟨wr.heap.size, 6, none⟩ = some (.int .i64 x.count) from fun w' q hq => by
        have HB' : Blk w' w.heap.size 28 #[.int .i64 b.first, .slice A n cap, .int .i64 b.rate] := (q _ (.inl (by omega))).trans HBn.out
        have HN' : Blk w' wr.heap.size 90 #[.int .i64 x.kind, .int .i64 x.age, .int .i64 x.years, .int .i64 x.sum, .int .i64 x.load, .int .i64 x.year, .int .i64 x.count] := (q _ (.inr rfl)).trans HNn.out
        exact ⟨hq, (HB'.cell 0), (HB'.cell 1), (HB'.cell 2), (HN'.cell 0), (HN'.cell 1), (HN'.cell 2), (HN'.cell 3), (HN'.cell 4), (HN'.cell 5), (HN'.cell 6)⟩)
      have HQ0 := Lib.hid (show ∀ g, g < w.heap.size + 1 ∨ g = wr.heap.size → (wr.alloc (.cells #[.int .i64 x.kind, .int .i64 x.age, .int .i64 x.years, .int .i64 x.sum, .int .i64 x.load, .int .i64 x.year, .int .i64 x.count] 90)).drew.heap[g]? = (wr.alloc (.cells #[.int .i64 x.kind, .int .i64 x.age, .int .i64 x.years, .int .i64 x.sum, .int .i64 x.load, .int .i64 x.year, .int .i64 x.count] 90)).heap[g]? from fun _ _ => rfl)
      have HD0 := Lib.hid (show Below (w.heap.size + 1) (w.alloc (.cells #[.int .i64 b.first, .slice A n cap, .int .i64 b.rate] 28)) (wr.alloc (.cells #[.int .i64 x.kind, .int .i64 x.age, .int .i64 x.years, .int .i64 x.sum, .int .i64 x.load, .int .i64 x.year, .int .i64 x.count] 90)).drew from hbN.drew)
      have HDs := Lib.hid (show w.heap.size + 1 ≤ (wr.alloc (.cells #[.int .i64 x.kind, .int .i64 x.age, .int .i64 x.years, .int .i64 x.sum, .int .i64 x.load, .int .i64 x.year, .int .i64 x.count] 90)).drew.heap.size by show w.heap.size + 1 ≤ (wr.alloc (.cells #[.int .i64 x.kind, .int .i64 x.age, .int .i64 x.years, .int .i64 x.sum, .int .i64 x.load, .int .i64 x.year, .int .i64 x.count] 90)).heap.size; simp; omega)
      have HSN := Lib.hid (show wr.heap.size < (wr.alloc (.cells #[.int .i64 x.kind, .int .i64 x.age, .int .i64 x.years, .int .i64 x.sum, .int .i64 x.load, .int .i64 x.year, .int .i64 x.count] 90)).heap.size by simp)
      have HLO := Lib.hid (fun g (hg : blkOf A' = some g) => (show w.heap.size + 1 ≤ g by
        rcases HR.out.own.2 with ⟨h1, _⟩ | ⟨g', c, cur, e, hB', hh, _⟩
        · simp only [Value.slice.injEq] at h1; rw [h1.1] at hg; simp [blkOf] at hg
        · simp only [Value.slice.injEq] at e; rw [e.1] at hg; simp only [blkOf, Option.map_some, Option.some.injEq] at hg; subst hg; exact hB'))
      have HAL := Lib.hid (fun g (hg : blkOf A' = some g) => (show g < wr.heap.size by
        rcases HR.out.own.2 with ⟨h1, _⟩ | ⟨g', c, cur, e, _, hh, _⟩
        · simp only [Value.slice.injEq] at h1; rw [h1.1] at hg; simp [blkOf] at hg
        · simp only [Value.slice.injEq] at e; rw [e.1] at hg; simp only [blkOf, Option.map_some, Option.some.injEq] at hg; subst hg
          exact Blk.lt (t := 2) (cs := cur) hh))
      go_region_held3 (fun w' => Below (w.heap.size + 1) (w.alloc (.cells #[.int .i64 b.first, .slice A n cap, .int .i64 b.rate] 28)) w' ∧ w'.cell? ⟨w.heap.size, 0, none⟩ = some (.int .i64 b.first) ∧ w'.cell? ⟨w.heap.size, 1, none⟩ = some (.slice A n cap) ∧ w'.cell? ⟨w.heap.size, 2, none⟩ = some (.int .i64 b.rate) ∧ w'.cell? ⟨wr.heap.size, 0, none⟩ = some (.int .i64 x.kind) ∧ w'.cell? ⟨wr.heap.size, 1, none⟩ = some (.int .i64 x.age) ∧ w'.cell? ⟨wr.heap.size, 2, none⟩ = some (.int .i64 x.years) ∧ w'.cell? ⟨wr.heap.size, 3, none⟩ = some (.int .i64 x.sum) ∧ w'.cell? ⟨wr.heap.size, 4, none⟩ = some (.int .i64 x.load) ∧ w'.cell? ⟨wr.heap.size, 5, none⟩ = some (.int .i64 x.year) ∧ w'.cell? ⟨wr.heap.size, 6, none⟩ = some (.int .i64 x.count)) (first | exact HS.out _ HQ5.out HB5.out | exact HS.out _ HQ4.out HB4.out | exact HS.out _ HQ3.out HB3.out | exact HS.out _ HQ0.out HD0.out) (first | (go_at_call 107; refine (impl_Holding_reserve_any b A n cap x _ (HBTn.out.past ((Below.refl _ _).drew)) Hx.out).mono ?_; rintro e w3 ⟨rfl, hb3⟩; have HR3 := Lib.hid (HRn.out.drew.past hb3); have HQ3 := Lib.hid (fun g (hg : g < w.heap.size + 1 ∨ g = wr.heap.size) => ((hb3.block g (by have := HSN.out; have := hbs; have h9 : (wr.alloc (.cells #[.int .i64 x.kind, .int .i64 x.age, .int .i64 x.years, .int .i64 x.sum, .int .i64 x.load, .int .i64 x.year, .int .i64 x.count] 90)).drew.heap.size = (wr.alloc (.cells #[.int .i64 x.kind, .int .i64 x.age, .int .i64 x.years, .int .i64 x.sum, .int .i64 x.load, .int .i64 x.year, .int .i64 x.count] 90)).heap.size := rfl; omega)).trans (HQ0.out g hg) : w3.heap[g]? = _)); have HB3 := Lib.hid (HD0.out.trans (hb3.mono HDs.out)); have HZ3 : Hid ((wr.alloc (.cells #[.int .i64 x.kind, .int .i64 x.age, .int .i64 x.years, .int .i64 x.sum, .int .i64 x.load, .int .i64 x.year, .int .i64 x.count] 90)).heap.size ≤ w3.heap.size) := Lib.hid hb3.size; have HQ4 := Lib.hid (fun g (hg : g < w.heap.size + 1 ∨ g = wr.heap.size) => ((Below.heap_alloc w3 (.cells #[.int .i64 (resV b x * x.year)] 2) g (by have := HSN.out; have := HZ3.out; omega)).trans (HQ3.out g hg))); have HB4s := Lib.hid (show w.heap.size + 1 ≤ (w3.alloc (.cells #[.int .i64 (resV b x * x.year)] 2)).heap.size from Nat.le_trans (Nat.le_trans HDs.out hb3.size) (by simp)); have HB4 := Lib.hid (HB3.out.alloc (Nat.le_trans HDs.out hb3.size) (.cells #[.int .i64 (resV b x * x.year)] 2))) | (refine step_append_row_at rfl (.tmp 17) (.tmp 24) 24 rfl (w.heap.size + 1) 2 i0 _ 1 8 Tryz.underlying24 HI.out.1 HI.out.2.1 HI.out.2.2.1 HI.out.2.2.2 rfl (by decide) (by decide) A' k c' _ rfl (HR3.out.past ((Below.refl _ _).alloc (Nat.le_refl _) _)) [.int .i64 (resV b x * x.year)] w3.heap.size 1 2 rfl (Blk.new _ _ _) rfl (by simp [Value.oneCell']) (by omega) HB4s.out ?_; intro B2 c2 w5 hR5 hb5 hk5 _; have HR5 := Lib.hid hR5; clear hR5; have HB5 := Lib.hid (HB4.out.trans hb5); have HQ5 := Lib.hid (fun g (hg : g < w.heap.size + 1 ∨ g = wr.heap.size) => ((hk5 g (by have := HSN.out; have := HZ3.out; simp; omega) (fun h9 => by have h8 := HAL.out g h9.symm; have h7 := HLO.out g h9.symm; omega)).trans (HQ4.out g hg) : w5.heap[g]? = _)); clear hb5 hk5))
      all_goals (rename Below (w.heap.size + 1) _ _ ∧ _ => hE; clear hE)
      go_wp2
      go_roundw
      case rel => exact ⟨k + 1, B2, c2, by omega, by go_num, rfl, by rw [HE.out, intRows_snoc]; exact HR5.out, HB5.out⟩
      case measure => simp [intOf]; omega
    · have hkn : k = m := by omega
      subst hkn
      rw [take_all HWL.out] at HR
      obtain ⟨wq, hwq⟩ : ∃ wq, wq = wr := ⟨wr, rfl⟩
      subst hwq
      have HP0 := Lib.hid (Blk.new wq 2 #[.int .i64 1])
      have hbp : Below wq.heap.size wq (wq.alloc (.cells #[.int .i64 1] 2)) := (Below.refl _ _).alloc (Nat.le_refl _) _
      have HRp := Lib.hid (HR.out.past hbp)
      have hb8 := hb.trans (hbp.mono hbs)
      have HRL := Lib.hid (fun g (hg : A' = some ⟨g, 0, none⟩) => (HR.out.lt hg).2)
      obtain ⟨GP, hGP⟩ : ∃ GP, GP = wq.heap.size := ⟨_, rfl⟩
      rw [← hGP] at HP0 HRL
      have HGP := Lib.hid hGP
      have hGPs : w.heap.size + 1 ≤ GP := by omega
      go_wp2
      rw [← hGP]
      clear hGP
      go_loopg [] 10 (fun nn ws => ∃ p : Int, Hid (Trying (mostL (wtL b xs)) nn p) ∧ Hid (Blk ws GP 2 #[.int .i64 p]) ∧ Hid (Res (w.heap.size + 1) ws 2 1 A' k c' (intRows (wtL b xs))) ∧ Hid (Below (w.heap.size + 1) (w.alloc (.cells #[.int .i64 b.first, .slice A n cap, .int .i64 b.rate] 28)) ws))
      case atStart => exact ⟨1, Lib.hid (Trying.start _), HP0, HRp, Lib.hid hb8⟩
      case round =>
        obtain ⟨p, HTR, HPr, HRr, HBr⟩ := hrel
        have p0 := HTR.out.1
        have p1 := HTR.out.bound
        have c0 : wr.cell? ⟨GP, 0, none⟩ = some (.int .i64 p) := HPr.out.cell 0
        have c1 : wr.frozen? ⟨GP, 0, none⟩ = false := HPr.out.frozen 0
        go_wp2_with fail
        refine (containsW_any A' k c' (wtL b xs) p ⟨GP, 0, none⟩ _ HWL.out (by omega) HRr.out.rd c0 HWB.out ⟨p0, p1⟩).mono ?_
        rintro e w2 ⟨rfl, rfl⟩
        by_cases hgt : 1000000000 < mostL (wtL b xs) / p
        · obtain ⟨n', hn', HTN, hp9⟩ := HTR.out.next HMB.out (by omega)
          have HTN := Lib.hid HTN
          have HN' := Lib.hid hn'; clear hn'
          go_wp2
          go_roundg n'
          case measure => have := HN'.out; omega
          case rel =>
            refine ⟨p * 10, HTN, Lib.hid (by simpa using HPr.out.set_ 0 (.int .i64 (p * 10))), Lib.hid (HRr.out.keep fun g' hg' => Below.heap_setCell _ _ _ _ (fun h => ?_)), Lib.hid (HBr.out.setCell (by show w.heap.size + 1 ≤ GP; exact hGPs) _)⟩
            have h1 := HRL.out g' hg'
            have h2 : g' = GP := h
            omega
        · have HSC := Lib.hid (show scaleP (wtL b xs) = p from HTR.out.done (by omega))
          have HNG := Lib.hid hgt
          have HPr' := HPr
          clear c0 c1
          have hgf : decide (1000000000 < mostL (wtL b xs) / p) = false := by simpa using hgt
          go_wp2
          go_loopw [34] (fun i ws => ∃ q : Nat, q ≤ k ∧ i = .int .i64 q ∧ Hid (Res (w.heap.size + 1) ws 2 1 A' k c' (intRows (partly (wtL b xs) p q))) ∧ Hid (Blk ws GP 2 #[.int .i64 p]) ∧ Hid (Below (w.heap.size + 1) (w.alloc (.cells #[.int .i64 b.first, .slice A n cap, .int .i64 b.rate] 28)) ws)) (fun i _ => k - (intOf i).toNat)
          case atStart => exact ⟨0, by omega, rfl, by rw [partly_zero]; exact HRr, HPr, HBr⟩
          case round =>
            obtain ⟨q, hq, rfl, HRq, HPq, HBq⟩ := hrel
            by_cases hlq : q < k
            · obtain ⟨x, hx⟩ := get_of_lt (xs := wtL b xs) (k := q) (by rw [HWL.out]; exact hlq)
              obtain ⟨x0, x1⟩ := HWB.out x (List.mem_of_getElem? hx)
              obtain ⟨g, hg, hg1, hg2, hgc, hgz, _⟩ := HRq.out.putInt (partly_get (p := p) hx)
              have HX9 := Lib.hid hx; clear hx
              have HGL := Lib.hid (HRL.out g hg)
              subst hg
              have d0 := fun y : Past wr => Past.cell hgc y
              have d1 := fun y : Past wr => Past.cell (p := ⟨GP, 0, none⟩) (v := .int .i64 p) (HPq.out.cell 0) y
              have hxp : x / p ≤ x := Int.ediv_le_self _ x0
              have hxp0 : 0 ≤ x / p := Int.ediv_nonneg x0 (by omega)
              have hqi : (q : Int) < (k : Int) := by omega
              clear hgc hgz
              go_wp2
              refine wp_region_past_tail 7 (by kernel_rfl) (by kernel_rfl) ?_
              simp only [List.take_succ_cons, List.take_zero, List.drop_succ_cons, List.drop_zero]
              repeat (go_big_quiet_step (fail))
              refine wpQuiet_nil ?_
              rintro _ ⟨y, rfl⟩
              clear d0 d1
              obtain ⟨g9, h9, _, _, hyc, hyz, hyp⟩ := (HRq.out.past y.2).putInt (partly_get (p := p) HX9.out)
              obtain rfl : g9 = g := by injection h9 with h9; injection h9 with h9; exact h9.symm
              have HYP := Lib.hid hyp; clear hyp h9
              have HPy := Lib.hid (HPq.out.below' y.2)
              have hwrs : w.heap.size + 1 ≤ wr.heap.size := by have := HBq.out.size; simpa using this
              have HBy := Lib.hid (HBq.out.trans (y.2.mono hwrs))
              go_wp2
              go_roundw
              case rel =>
                refine ⟨q + 1, by omega, by go_num, Lib.hid ?_, Lib.hid (HPy.out.far (by show GP ≠ g9; have := HGL.out; omega) _), Lib.hid (HBy.out.setCell (by show w.heap.size + 1 ≤ g9; omega) _)⟩
                have h8 := HYP.out (x / p)
                rw [partly_next HX9.out] at h8
                exact h8
              case measure => simp [intOf]; omega
            · have hqk : q = k := by omega
              subst hqk
              go_wp2
              go_ret
              refine ⟨A', c', rfl, ?_, hbw.trans (HBq.out.mono (by omega))⟩
              have h8 := HRq.out
              rw [partly_all HWL.out] at h8
              rw [weightsL, HSC.out]
              exact h8


set_option maxRecDepth 100000 in
set_option maxHeartbeats 8000000 in
theorem spec_l19Weights_any (b : Bas) (A : Option Addr) (n cap : Nat) (H : Option Addr) (m hcap : Nat) (xs : List Holding) (w : World) (hB : BasT w A n cap b) (hl : xs.length = m) (hm : m ≤ 30) (hX : Rd w w.heap.size H 7 (holdingRows xs)) (hh : ∀ x ∈ xs, holdB b x = true) :
    Calls Tryz.prog 118 #[.agg #[.int .i64 b.first, .slice A n cap, .int .i64 b.rate], .slice H m hcap] w fun e w' => ∃ A' c', e = .returned (.slice A' m c') ∧ Res (w.heap.size + 1) w' 2 1 A' m c' (intRows (weightsL b xs)) ∧ Below w.heap.size w w' := by
  obtain ⟨i0, hi0, hz0, hz1, hz2⟩ := info_parts Int64.info
  have HI := Lib.hid (And.intro hi0 (And.intro hz0 (And.intro hz1 hz2))); clear hi0 hz0 hz1 hz2
  have hbw : Below w.heap.size w (w.alloc (.cells #[.int .i64 b.first, .slice A n cap, .int .i64 b.rate] 28)) := (Below.refl _ w).alloc (Nat.le_refl _) _
  have HB := Lib.hid (Blk.new w 28 #[.int .i64 b.first, .slice A n cap, .int .i64 b.rate])
  have HBT := Lib.hid (hB.past hbw); clear hB
  have HX := Lib.hid (hX.past hbw); clear hX
  have HL := Lib.hid hl; clear hl
  have HH := Lib.hid hh; clear hh
  have HWB := Lib.hid (wtL_bound HH.out)
  have HWL := Lib.hid (show (wtL b xs).length = m by rw [wtL, List.length_map]; exact HL.out)
  have HMB := Lib.hid (mostL_bound (ws := wtL b xs) (hi := 20000000000000000) (by omega) HWB.out)
  have HMT := Lib.hid (fun k => mostL_bound (ws := (wtL b xs).take k) (hi := 20000000000000000) (by omega) (fun v hv => HWB.out v (List.mem_of_mem_take hv)))
  have HR0 := Lib.hid (Res.zero_at (w := (w.alloc (.cells #[.int .i64 b.first, .slice A n cap, .int .i64 b.rate] 28))) (B := w.heap.size + 1) (t := 2) (sz := 1) (g := w.heap.size + 1) (by simp) (by simp))
  go_enter Tryz.func118, Tryz.ntmps118
  go_wp2
  go_loopw [5, 6, 7] (fun o t i wr => ∃ (k : Nat) (A' : Option Addr) (c' : Nat), k ≤ m ∧ i = .int .i64 k ∧ o = .slice A' k c' ∧ t = .int .i64 (mostL ((wtL b xs).take k)) ∧ Res (w.heap.size + 1) wr 2 1 A' k c' (intRows ((wtL b xs).take k)) ∧ Below (w.heap.size + 1) (w.alloc (.cells #[.int .i64 b.first, .slice A n cap, .int .i64 b.rate] 28)) wr) (fun _ _ i _ => m - (intOf i).toNat)
  case atStart => exact ⟨0, _, _, by omega, rfl, rfl, rfl, HR0.out, (Below.refl _ _).alloc (by simp) _⟩
  case round =>
    obtain ⟨k, A', c', hk, rfl, rfl, rfl, hR, hb⟩ := hrel
    have HR := Lib.hid hR; clear hR
    have hbs : w.heap.size + 1 ≤ wr.heap.size := by have := hb.size; simpa using this
    by_cases hlt : k < m
    · obtain ⟨x, hx⟩ := get_of_lt (xs := xs) (k := k) (by rw [HL.out]; exact hlt)
      have hbr : Below (w.alloc (.cells #[.int .i64 b.first, .slice A n cap, .int .i64 b.rate] 28)).heap.size (w.alloc (.cells #[.int .i64 b.first, .slice A n cap, .int .i64 b.rate] 28)) wr := by rw [World.size_alloc]; exact hb
      obtain ⟨ad, rfl, had, _, hc⟩ := (HX.out.past hbr).at' (holdingRows_get hx)
      have HE := Lib.hid (take_succ_snoc (wtL_get (b := b) hx))
      have HM := Lib.hid (mostL_snoc (wtL_get (b := b) hx))
      have Hx := Lib.hid (HH.out x (List.mem_of_getElem? hx)); clear hx
      have Hxc := Lib.hid (Holding.cells (x := x) (p := ad.add (k * 7)) hc)
      have hcX := Lib.hid (Past.cells' hc)
      clear hc
      obtain ⟨v0, v1⟩ := resV_bound Hx.out
      obtain ⟨y0, y1⟩ := hold_year Hx.out
      obtain ⟨u0, u1⟩ := wtV_bound Hx.out
      obtain ⟨mt0, mt1⟩ := HMT.out k
      have HWV := Lib.hid (show wtV b x = resV b x * x.year from rfl)
      unfold wtV at u0 u1
      have hwr : IntKind.i64.wrap (resV b x * x.year) = resV b x * x.year := IntWalk.i64_in _ (by omega)
      have HBr := Lib.hid (HB.out.below' hbr)
      have HBTr := Lib.hid (HBT.out.past hbr)
      have hcB := Lib.hid (Blk.agg_past (cs := [.int .i64 b.first, .slice A n cap, .int .i64 b.rate]) HBr.out 0 [.int .i64 b.first, .slice A n cap, .int .i64 b.rate] rfl)
      have g5 := fun y : Past wr => Past.cell Hxc.out.2.2.2.2.2.1 y
      have hk63 : (k : Int) < 1048576 := by omega
      have hkm : (k : Int) < (m : Int) := by omega
      go_wp2
      refine wp_region_past (by kernel_rfl) (by kernel_rfl) ?_
      repeat (first | (go_big_quiet_want; (first | (first | (refine quiet_load_agg 28 _ rfl ⟨w.heap.size, 0, none⟩ rfl [.int .i64 b.first, .slice A n cap, .int .i64 b.rate] hcB.out _ Tryz.underlying28 rfl Bas.size ?_) | (refine quiet_load_agg 90 _ rfl (ad.add (k * 7)) rfl x.row hcX.out _ Tryz.underlying90 rfl Holding.size ?_))); go_simp; go_big_quiet_on) | go_big_quiet_step ((go_at_call 106; exact past_call (spec_l17Reserve_any b A n cap x _ (HBTr.out.at_past _) Hx.out))))
      refine wpQuiet_nil ?_
      rintro _ ⟨y, rfl⟩
      clear g5
      have HRy := Lib.hid (HR.out.past y.2)
      have hby : Below (w.heap.size + 1) (w.alloc (.cells #[.int .i64 b.first, .slice A n cap, .int .i64 b.rate] 28)) y.1 := hb.trans (y.2.mono hbs)
      have hsy : w.heap.size + 1 ≤ y.1.heap.size := by have := hby.size; simpa using this
      go_wp2_with (at_builtin; refine wpList_append_row y.1 rfl (.tmp 33) (.tmp 35) 24 rfl (w.heap.size + 1) 2 i0 _ 1 8 Tryz.underlying24 HI.out.1 HI.out.2.1 HI.out.2.2.1 HI.out.2.2.2 rfl (by decide) (by decide) A' k c' _ rfl HRy.out [.int .i64 (resV b x * x.year)] _ rfl rfl (by simp [Value.oneCell']) (by omega) hsy ?_)
      intro B2 c2 w3 hR3 hb5
      have HR3 := Lib.hid hR3; clear hR3
      have hb7 := hby.trans hb5
      go_wp2
      go_roundw
      case rel => exact ⟨k + 1, B2, c2, by omega, by go_num, rfl, by rw [HM.out, HWV.out], by rw [HE.out, intRows_snoc]; exact HR3.out, hb7⟩
      case measure => simp [intOf]; omega
    · have hkn : k = m := by omega
      subst hkn
      rw [take_all HWL.out] at HR
      obtain ⟨mt0, mt1⟩ := HMB.out
      have HTK := Lib.hid (take_all HWL.out)
      rw [HTK.out]
      have HB9 := Lib.hid hb
      go_wp2
      go_loopg [9] 10 (fun nn t ws => ∃ p : Int, t = .int .i64 p ∧ Hid (Trying (mostL (wtL b xs)) nn p) ∧ Hid (Res (w.heap.size + 1) ws 2 1 A' k c' (intRows (wtL b xs))) ∧ Hid (Below (w.heap.size + 1) (w.alloc (.cells #[.int .i64 b.first, .slice A n cap, .int .i64 b.rate] 28)) ws))
      case atStart => exact ⟨1, rfl, Lib.hid (Trying.start _), HR, HB9⟩
      case round =>
        obtain ⟨p, rfl, HTR, HRr, HBr⟩ := hrel
        have p0 := HTR.out.1
        have p1 := HTR.out.bound
        by_cases hgt : mostL (wtL b xs) / p ≤ 1000000000
        rotate_left
        · obtain ⟨n', hn', HTN, hp9⟩ := HTR.out.next ⟨mt0, mt1⟩ hgt
          have HTN := Lib.hid HTN
          have HN' := Lib.hid hn'; clear hn'
          go_wp2
          go_roundg n'
          case measure => have := HN'.out; omega
          case rel => exact ⟨p * 10, by rw [Int.mul_comm], HTN, HRr, HBr⟩
        · have HSC := Lib.hid (show scaleP (wtL b xs) = p from HTR.out.done hgt)
          go_wp2
          go_loopw [10] (fun i ws => ∃ q : Nat, q ≤ k ∧ i = .int .i64 q ∧ Hid (Res (w.heap.size + 1) ws 2 1 A' k c' (intRows (partly (wtL b xs) p q))) ∧ Hid (Below (w.heap.size + 1) (w.alloc (.cells #[.int .i64 b.first, .slice A n cap, .int .i64 b.rate] 28)) ws)) (fun i _ => k - (intOf i).toNat)
          case atStart => exact ⟨0, by omega, rfl, by rw [partly_zero]; exact HRr, HBr⟩
          case round =>
            obtain ⟨q, hq, rfl, HRq, HBq⟩ := hrel
            by_cases hlq : q < k
            · obtain ⟨x, hx⟩ := get_of_lt (xs := wtL b xs) (k := q) (by rw [HWL.out]; exact hlq)
              obtain ⟨x0, x1⟩ := HWB.out x (List.mem_of_getElem? hx)
              obtain ⟨g, hg, hg1, hg2, hgc, hgz, hyp⟩ := HRq.out.putInt (partly_get (p := p) hx)
              have HX9 := Lib.hid hx; clear hx
              have HYP := Lib.hid hyp; clear hyp
              subst hg
              have hxp : x / p ≤ x := Int.ediv_le_self _ x0
              have hxp0 : 0 ≤ x / p := Int.ediv_nonneg x0 (by omega)
              have hqi : (q : Int) < (k : Int) := by omega
              go_wp2
              go_roundw
              case rel =>
                refine ⟨q + 1, by omega, by go_num, Lib.hid ?_, Lib.hid (HBq.out.setCell (by show w.heap.size + 1 ≤ g; omega) _)⟩
                have h8 := HYP.out (x / p)
                rw [partly_next HX9.out] at h8
                exact h8
              case measure => simp [intOf]; omega
            · have hqk : q = k := by omega
              subst hqk
              go_wp2
              go_ret
              refine ⟨A', c', rfl, ?_, hbw.trans (HBq.out.mono (by omega))⟩
              have h8 := HRq.out
              rw [partly_all HWL.out] at h8
              rw [weightsL, HSC.out]
              exact h8


set_option maxHeartbeats 2000000 in
theorem impl_BonusWeights_any (b : Bas) (A : Option Addr) (n cap : Nat) (H : Option Addr) (m hcap : Nat) (xs : List Holding) (w : World) (hB : BasT w A n cap b) (hl : xs.length = m) (hm : m ≤ 1048576) (hX : Rd w w.heap.size H 7 (holdingRows xs)) (hf : ∀ x ∈ xs, x.fits) :
    Calls Tryz.prog 62 #[.agg #[.int .i64 b.first, .slice A n cap, .int .i64 b.rate], .slice H m hcap] w fun e w' => ∃ A' n' c', e = .returned (.tuple #[.slice A' n' c', .int .i64 (weightsP b xs).2]) ∧ Res w.heap.size w' 2 1 A' n' c' (intRows (weightsP b xs).1) ∧ Below w.heap.size w w' := by
  have hbw : Below w.heap.size w (w.alloc (.cells #[.int .i64 b.first, .slice A n cap, .int .i64 b.rate] 28)) := (Below.refl _ w).alloc (Nat.le_refl _) _
  have HB := Lib.hid (Blk.new w 28 #[.int .i64 b.first, .slice A n cap, .int .i64 b.rate])
  have HBT := Lib.hid (hB.past hbw); clear hB
  have HX := Lib.hid (hX.past hbw); clear hX
  have HL := Lib.hid hl; clear hl
  have HF := Lib.hid hf; clear hf
  have hcB0 := Lib.hid (Blk.agg (cs := [.int .i64 b.first, .slice A n cap, .int .i64 b.rate]) HB.out 0 [.int .i64 b.first, .slice A n cap, .int .i64 b.rate] rfl)
  cases hp : portB b xs
  · have Q := Lib.hid (show weightsP b xs = ([], 1) by simp [weightsP, hp])
    go_enter Tryz.func62, Tryz.ntmps62
    go_wp2_with (refine wpList_load_agg rfl 28 _ rfl ⟨w.heap.size, 0, none⟩ rfl [.int .i64 b.first, .slice A n cap, .int .i64 b.rate] hcB0.out _ Tryz.underlying28 rfl Bas.size ?_)
    refine (impl_IsPortfolio_any b A n cap H m hcap xs _ HBT.out HL.out hm HX.out HF.out).mono ?_
    rw [hp]
    rintro e w1 ⟨rfl, hb1⟩
    go_wp2
    go_ret2
    exact ⟨none, 0, 0, by rw [Q.out]; rfl, by rw [Q.out]; exact Res.nil_, hbw.trans (hb1.mono hbw.size)⟩
  · have Q := Lib.hid (show weightsP b xs = (weightsL b xs, 0) by simp [weightsP, hp])
    obtain ⟨h30, hh⟩ := port_hold hp
    have hm30 : m ≤ 30 := by have := HL.out; omega
    have HH := Lib.hid hh; clear hh h30
    go_enter Tryz.func62, Tryz.ntmps62
    go_wp2_with (refine wpList_load_agg rfl 28 _ rfl ⟨w.heap.size, 0, none⟩ rfl [.int .i64 b.first, .slice A n cap, .int .i64 b.rate] hcB0.out _ Tryz.underlying28 rfl Bas.size ?_)
    refine (impl_IsPortfolio_any b A n cap H m hcap xs _ HBT.out HL.out hm HX.out HF.out).mono ?_
    rw [hp]
    rintro e w1 ⟨rfl, hb1⟩
    have hb01 := hbw.trans (hb1.mono hbw.size)
    have hcB1 := Lib.hid (Blk.agg (cs := [.int .i64 b.first, .slice A n cap, .int .i64 b.rate]) (HB.out.below' hb1) 0 [.int .i64 b.first, .slice A n cap, .int .i64 b.rate] rfl)
    go_wp2_with (refine wpList_load_agg rfl 28 _ rfl ⟨w.heap.size, 0, none⟩ rfl [.int .i64 b.first, .slice A n cap, .int .i64 b.rate] hcB1.out _ Tryz.underlying28 rfl Bas.size ?_)
    refine (impl_bonusWeights_any b A n cap H m hcap xs _ (HBT.out.past hb1) HL.out hm30 (HX.out.past hb1) HH.out).mono ?_
    rintro e w2 ⟨A', c', rfl, hR, hb2⟩
    have HR := Lib.hid hR; clear hR
    go_wp2
    go_ret2
    exact ⟨A', m, c', by rw [Q.out]; rfl, by rw [Q.out]; exact HR.out.more (by have := hb01.size; omega), hb01.trans (hb2.mono hb01.size)⟩


set_option maxHeartbeats 2000000 in
theorem spec_BonusWeights_any (b : Bas) (A : Option Addr) (n cap : Nat) (H : Option Addr) (m hcap : Nat) (xs : List Holding) (w : World) (hB : BasT w A n cap b) (hl : xs.length = m) (hm : m ≤ 1048576) (hX : Rd w w.heap.size H 7 (holdingRows xs)) (hf : ∀ x ∈ xs, x.fits) :
    Calls Tryz.prog 63 #[.agg #[.int .i64 b.first, .slice A n cap, .int .i64 b.rate], .slice H m hcap] w fun e w' => ∃ A' n' c', e = .returned (.tuple #[.slice A' n' c', .int .i64 (weightsP b xs).2]) ∧ Res w.heap.size w' 2 1 A' n' c' (intRows (weightsP b xs).1) ∧ Below w.heap.size w w' := by
  have hbw : Below w.heap.size w (w.alloc (.cells #[.int .i64 b.first, .slice A n cap, .int .i64 b.rate] 28)) := (Below.refl _ w).alloc (Nat.le_refl _) _
  have HB := Lib.hid (Blk.new w 28 #[.int .i64 b.first, .slice A n cap, .int .i64 b.rate])
  have HBT := Lib.hid (hB.past hbw); clear hB
  have HX := Lib.hid (hX.past hbw); clear hX
  have HL := Lib.hid hl; clear hl
  have HF := Lib.hid hf; clear hf
  have hcB0 := Lib.hid (Blk.agg (cs := [.int .i64 b.first, .slice A n cap, .int .i64 b.rate]) HB.out 0 [.int .i64 b.first, .slice A n cap, .int .i64 b.rate] rfl)
  cases hp : portB b xs
  · have Q := Lib.hid (show weightsP b xs = ([], 1) by simp [weightsP, hp])
    go_enter Tryz.func63, Tryz.ntmps63
    go_wp2_with (refine wpList_load_agg rfl 28 _ rfl ⟨w.heap.size, 0, none⟩ rfl [.int .i64 b.first, .slice A n cap, .int .i64 b.rate] hcB0.out _ Tryz.underlying28 rfl Bas.size ?_)
    refine (spec_IsPortfolio_any b A n cap H m hcap xs _ HBT.out HL.out hm HX.out HF.out).mono ?_
    rw [hp]
    rintro e w1 ⟨rfl, hb1⟩
    go_wp2
    go_ret2
    exact ⟨none, 0, 0, by rw [Q.out]; rfl, by rw [Q.out]; exact Res.nil_, hbw.trans (hb1.mono hbw.size)⟩
  · have Q := Lib.hid (show weightsP b xs = (weightsL b xs, 0) by simp [weightsP, hp])
    obtain ⟨h30, hh⟩ := port_hold hp
    have hm30 : m ≤ 30 := by have := HL.out; omega
    have HH := Lib.hid hh; clear hh h30
    go_enter Tryz.func63, Tryz.ntmps63
    go_wp2_with (refine wpList_load_agg rfl 28 _ rfl ⟨w.heap.size, 0, none⟩ rfl [.int .i64 b.first, .slice A n cap, .int .i64 b.rate] hcB0.out _ Tryz.underlying28 rfl Bas.size ?_)
    refine (spec_IsPortfolio_any b A n cap H m hcap xs _ HBT.out HL.out hm HX.out HF.out).mono ?_
    rw [hp]
    rintro e w1 ⟨rfl, hb1⟩
    have hb01 := hbw.trans (hb1.mono hbw.size)
    have hcB1 := Lib.hid (Blk.agg (cs := [.int .i64 b.first, .slice A n cap, .int .i64 b.rate]) (HB.out.below' hb1) 0 [.int .i64 b.first, .slice A n cap, .int .i64 b.rate] rfl)
    go_wp2_with (refine wpList_load_agg rfl 28 _ rfl ⟨w.heap.size, 0, none⟩ rfl [.int .i64 b.first, .slice A n cap, .int .i64 b.rate] hcB1.out _ Tryz.underlying28 rfl Bas.size ?_)
    refine (spec_l19Weights_any b A n cap H m hcap xs _ (HBT.out.past hb1) HL.out hm30 (HX.out.past hb1) HH.out).mono ?_
    rintro e w2 ⟨A', c', rfl, hR, hb2⟩
    have HR := Lib.hid hR; clear hR
    go_wp2
    go_ret2
    exact ⟨A', m, c', by rw [Q.out]; rfl, by rw [Q.out]; exact HR.out.more (by have := hb01.size; omega), hb01.trans (hb2.mono hb01.size)⟩

end Go.Proofs.YtbjdbpdgacfcpaaGreat
end

/- KeptPart and CashEach: the program's and the reference's contracts over one plain function each. -/
section
namespace Go.Proofs.YtbjdbpdgacfcpaaGreat
open Go.RowKit Go.BigFrame

def keptPart (a s : Int) : Int × Int := if inR a 0 1000000000 = true ∧ inR s 0 500 = true then (ceilDiv (a * s) 1000, 0) else (0, 2)
theorem mul_bounds {a s : Int} (ha : inR a 0 1000000000 = true) (hs : inR s 0 500 = true) : 0 ≤ a * s ∧ a * s ≤ 500000000000 := by
  rw [inR_true] at ha hs
  exact ⟨Int.mul_nonneg ha.1 hs.1, Int.le_trans (Int.mul_le_mul ha.2 hs.2 hs.1 (by omega)) (by omega)⟩
theorem impl_isSurplus_any (a s : Int) (w : World) :
    Calls Tryz.prog 123 #[.int .i64 a, .int .i64 s] w fun e w' => e = .returned (.bool (inR a 0 1000000000 && inR s 0 500)) ∧ w = w' := by
  by_cases h : inR a 0 1000000000 = true
  · rw [h, Bool.true_and]
    go_enter Tryz.func123, Tryz.ntmps123
    go_wp2_with fail
    refine (impl_isAmount_any _ _).mono ?_
    rintro e w' ⟨rfl, rfl⟩
    go_wp2_with fail
    refine (impl_inRange_any _ _ _ _).mono ?_
    rintro e w' ⟨rfl, rfl⟩
    go_wp2
    go_ret
    exact ⟨rfl, rfl⟩
  · have h : inR a 0 1000000000 = false := by simpa using h
    rw [h, Bool.false_and]
    go_enter Tryz.func123, Tryz.ntmps123
    go_wp2_with fail
    refine (impl_isAmount_any _ _).mono ?_
    rintro e w' ⟨rfl, rfl⟩
    go_wp2
    go_ret
    exact ⟨rfl, rfl⟩
theorem impl_KeptPart_any (a s : Int) (w : World) :
    Calls Tryz.prog 64 #[.int .i64 a, .int .i64 s] w fun e w' => e = .returned (.tuple #[.int .i64 (keptPart a s).1, .int .i64 (keptPart a s).2]) ∧ w = w' := by
  by_cases h : inR a 0 1000000000 = true ∧ inR s 0 500 = true
  · rw [keptPart, if_pos h]
    obtain ⟨h1, h2⟩ := h
    obtain ⟨hm1, hm2⟩ := mul_bounds h1 h2
    go_enter Tryz.func64, Tryz.ntmps64
    go_wp2_with fail
    refine (impl_isSurplus_any _ _ _).mono ?_
    rintro e w' ⟨rfl, rfl⟩
    go_wp2_with fail
    refine (impl_up_any _ _ _ (by omega) (by omega) (by omega) (by omega)).mono ?_
    rintro e w' ⟨rfl, rfl⟩
    go_wp2
    go_ret2
    exact ⟨rfl, rfl⟩
  · have hb : (inR a 0 1000000000 && inR s 0 500) = false := by simpa using h
    rw [keptPart, if_neg h]
    have HB := Lib.hid hb
    clear h hb
    go_enter Tryz.func64, Tryz.ntmps64
    go_wp2_with fail
    refine (impl_isSurplus_any _ _ _).mono ?_
    rw [HB.out]
    rintro e w' ⟨rfl, rfl⟩
    go_wp2
    go_ret2
    exact ⟨rfl, rfl⟩
theorem spec_KeptPart_any (a s : Int) (w : World) :
    Calls Tryz.prog 65 #[.int .i64 a, .int .i64 s] w fun e w' => e = .returned (.tuple #[.int .i64 (keptPart a s).1, .int .i64 (keptPart a s).2]) ∧ w = w' := by
  by_cases h1 : inR a 0 1000000000 = true
  · by_cases h2 : inR s 0 500 = true
    · rw [keptPart, if_pos ⟨h1, h2⟩]
      obtain ⟨hm1, hm2⟩ := mul_bounds h1 h2
      go_enter Tryz.func65, Tryz.ntmps65
      go_wp2_with fail
      refine (spec_l19Amount_any _ _).mono ?_
      rintro e w' ⟨rfl, rfl⟩
      go_wp2_with fail
      refine (spec_l01In_any _ _ _ _).mono ?_
      rintro e w' ⟨rfl, rfl⟩
      go_wp2_with fail
      refine (spec_l01Up_any _ _ _ (by omega) (by omega) (by omega) (by omega)).mono ?_
      rintro e w' ⟨rfl, rfl⟩
      go_wp2
      go_ret2
      exact ⟨rfl, rfl⟩
    · rw [keptPart, if_neg (by simp [h2])]
      have h2 : inR s 0 500 = false := by simpa using h2
      go_enter Tryz.func65, Tryz.ntmps65
      go_wp2_with fail
      refine (spec_l19Amount_any _ _).mono ?_
      rintro e w' ⟨rfl, rfl⟩
      go_wp2_with fail
      refine (spec_l01In_any _ _ _ _).mono ?_
      rintro e w' ⟨rfl, rfl⟩
      go_wp2
      go_ret2
      exact ⟨rfl, rfl⟩
  · rw [keptPart, if_neg (by simp [h1])]
    have h1 : inR a 0 1000000000 = false := by simpa using h1
    go_enter Tryz.func65, Tryz.ntmps65
    go_wp2_with fail
    refine (spec_l19Amount_any _ _).mono ?_
    rintro e w' ⟨rfl, rfl⟩
    go_wp2
    go_ret2
    exact ⟨rfl, rfl⟩
end Go.Proofs.YtbjdbpdgacfcpaaGreat
end

/- Shares and the division of a bonus: the program's and the reference's contracts. -/
section
namespace Go.Proofs.YtbjdbpdgacfcpaaGreat
open Go.RowKit Go.BigFrame

theorem scaleF_ok {m : Int} : ∀ (n : Nat) (p : Int), 1 ≤ p → m / (10 ^ n * p) ≤ 1000000000 → 1 ≤ scaleF m n p ∧ m / scaleF m n p ≤ 1000000000
  | 0, p, hp, h => ⟨hp, by simpa [scaleF] using h⟩
  | n + 1, p, hp, h => by
    unfold scaleF
    by_cases hm : m / p ≤ 1000000000
    · rw [if_pos hm]; exact ⟨hp, hm⟩
    · rw [if_neg hm]
      refine scaleF_ok n (10 * p) (by omega) ?_
      rwa [show (10 : Int) ^ n * (10 * p) = 10 ^ (n + 1) * p by rw [Int.pow_succ, Int.mul_assoc]]
theorem weights_bound {b : Bas} {xs : List Holding} (hh : ∀ x ∈ xs, holdB b x = true) : ∀ v ∈ weightsL b xs, 0 ≤ v ∧ v ≤ 1000000000 := by
  intro v hv
  have hb := wtL_bound hh
  obtain ⟨w, hw, rfl⟩ := List.mem_map.1 hv
  obtain ⟨m0, m1⟩ := mostL_bound (hi := 20000000000000000) (by omega) hb
  have hq : mostL (wtL b xs) / (10 ^ 10 * 1) ≤ 1000000000 := by omega
  obtain ⟨h1, h2⟩ := scaleF_ok 10 1 (by omega) hq
  have h3 := (mostFrom_le (ws := wtL b xs) (a := 0)).2 w hw
  have h4 : w / scaleP (wtL b xs) ≤ mostL (wtL b xs) / scaleP (wtL b xs) := Int.ediv_le_ediv (show 0 < scaleP (wtL b xs) by unfold scaleP; omega) h3
  refine ⟨Int.ediv_nonneg (hb w hw).1 (show 0 ≤ scaleP (wtL b xs) by unfold scaleP; omega), ?_⟩
  have h5 : mostL (wtL b xs) / scaleP (wtL b xs) ≤ 1000000000 := h2
  show w / scaleP (wtL b xs) ≤ 1000000000
  omega
theorem weights_length (b : Bas) (xs : List Holding) : (weightsL b xs).length = xs.length := by simp [weightsL, scaled, wtL]
def shP (a : Int) (ws : List Int) : List Int × Int := if ws.sum = 0 then ([], 5) else (sharesL a ws, 0)
def dvP (b : Bas) (xs : List Holding) (a s : Int) : List Int × Int :=
  if portB b xs = true then (if (inR a 0 1000000000 && inR s 0 500) = true then shP (a - ceilDiv (a * s) 1000) (weightsL b xs) else ([], 2)) else ([], 1)
theorem kept_le {a s : Int} (ha : 0 ≤ a) (h : 0 ≤ s ∧ s ≤ 500) : 0 ≤ ceilDiv (a * s) 1000 ∧ ceilDiv (a * s) 1000 ≤ a := by
  have h1 := Int.mul_nonneg ha h.1
  have h2 : a * s ≤ a * 500 := Int.mul_le_mul_of_nonneg_left h.2 ha
  unfold ceilDiv
  omega
set_option maxRecDepth 20000 in
set_option maxHeartbeats 8000000 in
theorem impl_ShareOut_at (a : Int) (X : Option Addr) (m xc : Nat) (ws : List Int) (w : World) (hl : ws.length = m) (hm : m ≤ 30) (hX : Rd w w.heap.size X 1 (intRows ws)) (hw : ∀ x ∈ ws, 0 ≤ x ∧ x ≤ 1000000000) (ha : 0 ≤ a ∧ a ≤ 1000000000) :
    Calls Tryz.prog 124 #[.int .i64 a, .slice X m xc] w fun e w' => ∃ A' n' c', e = .returned (.tuple #[.slice A' n' c', .int .i64 (shP a ws).2]) ∧ Res w.heap.size w' 2 1 A' n' c' (intRows (shP a ws).1) ∧ Below w.heap.size w w' := by
  have hs2 := sums_of (xs := ws) (n := 30) (hi := 1000000000) (by omega) (by omega) hw (by omega)
  obtain ⟨HSU, hs0, hs1⟩ := hs2
  have HSU := Lib.hid HSU
  have HL := Lib.hid hl; clear hl
  have HWB := Lib.hid hw; clear hw
  have HX := Lib.hid hX; clear hX
  have HIN := Lib.hid (show inR a 0 1000000000 = true from inR_mk ha)
  have HAL := Lib.hid (show allR ws 0 1000000000 = true from List.all_eq_true.2 fun x hx => inR_mk (HWB.out x hx))
  have HA := Lib.hid ha; clear ha
  have hm130 : decide ((130 : Int) < (m : Int)) = false := by simp; omega
  by_cases hz : ws.sum = 0
  · have Q := Lib.hid (show shP a ws = ([], 5) from if_pos hz)
    have HZ := Lib.hid hz; clear hz
    go_enter Tryz.func124, Tryz.ntmps124
    go_wp2_with (first | (go_at_call 82; refine (impl_inRange_any _ _ _ _).mono ?_; rw [HIN.out]; rintro e w' ⟨rfl, rfl⟩) | (go_at_call 158; refine (impl_allIn_any X m xc ws 0 1000000000 _ HL.out (by omega) HX.out).mono ?_; rw [HAL.out]; rintro e w2 ⟨rfl, hb2⟩) | (go_at_call 97; refine (impl_total_any X m xc ws _ HL.out (by omega) (HX.out.past hb2) HSU.out).mono ?_; rw [HZ.out]; rintro e w' ⟨rfl, rfl⟩))
    go_ret2
    exact ⟨none, 0, 0, by rw [Q.out]; rfl, by rw [Q.out]; exact Res.nil_, hb2⟩
  · have Q := Lib.hid (show shP a ws = (sharesL a ws, 0) from if_neg hz)
    have hzb : (ws.sum == 0) = false := by simpa using hz
    have hpos : 0 < ws.sum := by omega
    have hm1 : 1 ≤ m := by
      rcases Nat.eq_zero_or_pos m with h | h
      · exfalso; apply hz; have h2 : ws = [] := List.length_eq_zero_iff.1 (by rw [HL.out]; exact h)
        rw [h2]; rfl
      · exact h
    have HZ := Lib.hid hz; clear hz
    go_enter Tryz.func124, Tryz.ntmps124
    go_wp2_with (first | (go_at_call 82; refine (impl_inRange_any _ _ _ _).mono ?_; rw [HIN.out]; rintro e w' ⟨rfl, rfl⟩) | (go_at_call 158; refine (impl_allIn_any X m xc ws 0 1000000000 _ HL.out (by omega) HX.out).mono ?_; rw [HAL.out]; rintro e w2 ⟨rfl, hb2⟩) | (go_at_call 97; refine (impl_total_any X m xc ws _ HL.out (by omega) (HX.out.past hb2) HSU.out).mono ?_; rintro e w' ⟨rfl, rfl⟩) | (go_at_call 159; refine (impl_shareOut_any a X m xc ws _ HL.out hm1 hm (HX.out.past hb2) HWB.out HA.out hpos).mono ?_; rintro e w3 ⟨A', c', rfl, hR, hb3⟩; have HR := Lib.hid hR; clear hR))
    go_ret2
    exact ⟨A', m, c', by rw [Q.out]; rfl, by rw [Q.out]; exact HR.out.more hb2.size, below_all hb2 hb3⟩
end Go.Proofs.YtbjdbpdgacfcpaaGreat
end

/- What one of many holdings gets in cash: the program's and the reference's contracts over one plain function. -/
section
namespace Go.Proofs.YtbjdbpdgacfcpaaGreat
open Go.RowKit Go.BigFrame
def cashEach (h : Holding) (a : Int) : Int × Int × Int :=
  if inR a 0 1000000000 = true ∧ inR h.count 1 1000000 = true then (a / h.count, a % h.count, 0) else (0, 0, 2)
set_option maxHeartbeats 1000000 in
theorem impl_CashEach_any (h : Holding) (a : Int) (w : World) (_hf : h.fits) (_ha : In64 a) :
    Calls Tryz.prog 70 #[.agg h.row.toArray, .int .i64 a] w fun e w' => e = .returned (.tuple #[.int .i64 (cashEach h a).1, .int .i64 (cashEach h a).2.1, .int .i64 (cashEach h a).2.2]) ∧ Below w.heap.size w w' := by
  by_cases h1 : inR a 0 1000000000 = true
  rotate_left
  · have e : cashEach h a = (0, 0, 2) := by unfold cashEach; rw [if_neg (fun k => h1 k.1)]
    have E := Lib.hid e; clear e
    have h1' : inR a 0 1000000000 = false := by simpa using h1
    clear h1
    unfold Holding.row
    go_enter Tryz.func70, Tryz.ntmps70
    go_wp2_with (first | (go_at_call 133; refine (impl_isAmount_any _ _).mono ?_; rintro e w' ⟨rfl, rfl⟩) | (go_at_call 82; refine (impl_inRange_any _ _ _ _).mono ?_; rintro e w' ⟨rfl, rfl⟩))
    go_ret3
    exact ⟨by rw [E.out]; rfl, (Below.refl _ _).alloc (Nat.le_refl _) _⟩
  by_cases h2 : inR h.count 1 1000000 = true
  rotate_left
  · have e : cashEach h a = (0, 0, 2) := by unfold cashEach; rw [if_neg (fun k => h2 k.2)]
    have E := Lib.hid e; clear e
    have h2' : inR h.count 1 1000000 = false := by simpa using h2
    clear h2
    unfold Holding.row
    go_enter Tryz.func70, Tryz.ntmps70
    go_wp2_with (first | (go_at_call 133; refine (impl_isAmount_any _ _).mono ?_; rintro e w' ⟨rfl, rfl⟩) | (go_at_call 82; refine (impl_inRange_any _ _ _ _).mono ?_; rintro e w' ⟨rfl, rfl⟩))
    go_ret3
    exact ⟨by rw [E.out]; rfl, (Below.refl _ _).alloc (Nat.le_refl _) _⟩
  have e : cashEach h a = (a / h.count, a % h.count, 0) := by unfold cashEach; rw [if_pos ⟨h1, h2⟩]
  have E := Lib.hid e; clear e
  obtain ⟨q1, q2⟩ := inR_true.1 h1
  obtain ⟨q3, q4⟩ := inR_true.1 h2
  have hc := fun y : Past (w.alloc (.cells #[.int .i64 h.kind, .int .i64 h.age, .int .i64 h.years, .int .i64 h.sum, .int .i64 h.load, .int .i64 h.year, .int .i64 h.count] 90)) => Past.cell (p := ⟨w.heap.size, 6, none⟩) (v := .int .i64 h.count) (by go_simp) y
  have q5 : ¬ h.count = 0 := by omega
  unfold Holding.row
  go_enter Tryz.func70, Tryz.ntmps70
  go_wp2_with (first | (go_at_call 133; refine (impl_isAmount_any _ _).mono ?_; rintro e w' ⟨rfl, rfl⟩) | (go_at_call 82; refine (impl_inRange_any _ _ _ _).mono ?_; rintro e w' ⟨rfl, rfl⟩))
  refine wp_region_past (by kernel_rfl) (by kernel_rfl) ?_
  repeat (go_big_quiet_step (fail))
  refine wpQuiet_nil ?_
  rintro _ ⟨y, rfl⟩
  go_wp2
  go_ret3
  exact ⟨by rw [E.out]; rfl, ((Below.refl _ w).alloc (Nat.le_refl _) _).trans (y.2.mono (by simp))⟩
set_option maxHeartbeats 1000000 in
theorem spec_CashEach_any (h : Holding) (a : Int) (w : World) (_hf : h.fits) (_ha : In64 a) :
    Calls Tryz.prog 71 #[.agg h.row.toArray, .int .i64 a] w fun e w' => e = .returned (.tuple #[.int .i64 (cashEach h a).1, .int .i64 (cashEach h a).2.1, .int .i64 (cashEach h a).2.2]) ∧ Below w.heap.size w w' := by
  by_cases h1 : inR a 0 1000000000 = true
  rotate_left
  · have e : cashEach h a = (0, 0, 2) := by unfold cashEach; rw [if_neg (fun k => h1 k.1)]
    have E := Lib.hid e; clear e
    have h1' : inR a 0 1000000000 = false := by simpa using h1
    clear h1
    unfold Holding.row
    go_enter Tryz.func71, Tryz.ntmps71
    go_wp2_with (first | (go_at_call 131; refine (spec_l19Amount_any _ _).mono ?_; rintro e w' ⟨rfl, rfl⟩) | (go_at_call 85; refine (spec_l01In_any _ _ _ _).mono ?_; rintro e w' ⟨rfl, rfl⟩))
    go_ret3
    exact ⟨by rw [E.out]; rfl, (Below.refl _ _).alloc (Nat.le_refl _) _⟩
  by_cases h2 : inR h.count 1 1000000 = true
  rotate_left
  · have e : cashEach h a = (0, 0, 2) := by unfold cashEach; rw [if_neg (fun k => h2 k.2)]
    have E := Lib.hid e; clear e
    have h2' : inR h.count 1 1000000 = false := by simpa using h2
    clear h2
    unfold Holding.row
    go_enter Tryz.func71, Tryz.ntmps71
    go_wp2_with (first | (go_at_call 131; refine (spec_l19Amount_any _ _).mono ?_; rintro e w' ⟨rfl, rfl⟩) | (go_at_call 85; refine (spec_l01In_any _ _ _ _).mono ?_; rintro e w' ⟨rfl, rfl⟩))
    go_ret3
    exact ⟨by rw [E.out]; rfl, (Below.refl _ _).alloc (Nat.le_refl _) _⟩
  have e : cashEach h a = (a / h.count, a % h.count, 0) := by unfold cashEach; rw [if_pos ⟨h1, h2⟩]
  have E := Lib.hid e; clear e
  obtain ⟨q1, q2⟩ := inR_true.1 h1
  obtain ⟨q3, q4⟩ := inR_true.1 h2
  have hc := fun y : Past (w.alloc (.cells #[.int .i64 h.kind, .int .i64 h.age, .int .i64 h.years, .int .i64 h.sum, .int .i64 h.load, .int .i64 h.year, .int .i64 h.count] 90)) => Past.cell (p := ⟨w.heap.size, 6, none⟩) (v := .int .i64 h.count) (by go_simp) y
  have q5 : ¬ h.count = 0 := by omega
  unfold Holding.row
  go_enter Tryz.func71, Tryz.ntmps71
  go_wp2_with (first | (go_at_call 131; refine (spec_l19Amount_any _ _).mono ?_; rintro e w' ⟨rfl, rfl⟩) | (go_at_call 85; refine (spec_l01In_any _ _ _ _).mono ?_; rintro e w' ⟨rfl, rfl⟩))
  refine wp_region_past (by kernel_rfl) (by kernel_rfl) ?_
  repeat (go_big_quiet_step (fail))
  refine wpQuiet_nil ?_
  rintro _ ⟨y, rfl⟩
  go_wp2
  go_ret3
  exact ⟨by rw [E.out]; rfl, ((Below.refl _ w).alloc (Nat.le_refl _) _).trans (y.2.mono (by simp))⟩
end Go.Proofs.YtbjdbpdgacfcpaaGreat
end

/- Plain laws on what is divided: nothing of a surplus is lost. No program. -/
section
namespace Go.Proofs.YtbjdbpdgacfcpaaGreat
theorem cash_good {h : Holding} {a E R S : Int} (he : cashEach h a = (E, R, S)) (hS : S = 0) : E * h.count + R = a ∧ 0 ≤ R ∧ R < h.count ∧ 0 ≤ E * h.count ∧ E * h.count ≤ 1000000000 := by
  unfold cashEach at he
  split at he
  case isTrue k =>
    rw [inR_true, inR_true] at k
    simp only [Prod.mk.injEq] at he
    obtain ⟨rfl, rfl, _⟩ := he
    have h1 := Int.ediv_mul_add_emod a h.count
    have h2 := Int.emod_nonneg a (show h.count ≠ 0 by omega)
    have h3 := Int.emod_lt_of_pos a (show 0 < h.count by omega)
    have h4 : 0 ≤ a / h.count * h.count := Int.mul_nonneg (Int.ediv_nonneg k.1.1 (by omega)) (by omega)
    refine ⟨h1, h2, h3, h4, by omega⟩
  case isFalse k =>
    simp only [Prod.mk.injEq] at he
    omega
theorem ceil_at (x : Int) : x ≤ 1000 * ceilDiv x 1000 ∧ 1000 * (ceilDiv x 1000 - 1) < x := by
  unfold ceilDiv
  omega
theorem kept_good {a s K T : Int} (h : keptPart a s = (K, T)) (hT : T = 0) : (0 ≤ a ∧ a ≤ 1000000000) ∧ (0 ≤ s ∧ s ≤ 500) ∧ K = ceilDiv (a * s) 1000 ∧ (0 ≤ a * s ∧ a * s ≤ 500000000000) ∧ a * s ≤ 1000 * K ∧ 1000 * (K - 1) < a * s ∧ 0 ≤ K ∧ K ≤ a := by
  unfold keptPart at h
  split at h
  case isTrue k =>
    simp only [Prod.mk.injEq] at h
    obtain ⟨rfl, _⟩ := h
    have hm := mul_bounds k.1 k.2
    have h1 := inR_true.1 k.1
    have h2 := inR_true.1 k.2
    have h3 := kept_le h1.1 h2
    have h4 := ceil_at (a * s)
    exact ⟨h1, h2, rfl, hm, h4.1, h4.2, h3⟩
  case isFalse k =>
    simp only [Prod.mk.injEq] at h
    omega
theorem dv_kept {b : Bas} {xs : List Holding} {a s K T : Int} (h : keptPart a s = (K, T)) (hd : (dvP b xs a s).2 = 0) : T = 0 := by
  unfold dvP at hd
  unfold keptPart at h
  split at hd
  · split at hd
    case isTrue k =>
      rw [Bool.and_eq_true] at k
      rw [if_pos k] at h
      simp only [Prod.mk.injEq] at h
      exact h.2.symm
    · simp at hd
  · simp at hd
theorem rounds_nonneg (o r : List Int) (ho : ∀ x ∈ o, 0 ≤ x) : ∀ j, ∀ x ∈ (rounds o r j).1, 0 ≤ x
  | 0 => ho
  | j + 1 => by
    have ih := rounds_nonneg o r ho j
    rw [rounds]
    intro x hx
    rcases List.mem_or_eq_of_mem_set hx with h | rfl
    · exact ih x h
    · rw [List.getD_eq_getElem?_getD]
      cases hg : (rounds o r j).1[topAt (rounds o r j).2 r.length]? with
      | none => simp
      | some y => have := ih y (List.mem_of_getElem? hg); simp; omega
theorem sum_nonneg9 : ∀ {xs : List Int}, (∀ x ∈ xs, 0 ≤ x) → 0 ≤ xs.sum
  | [], _ => by simp
  | x :: xs, h => by
    have h1 := h x (by simp)
    have h2 := sum_nonneg9 (xs := xs) fun y hy => h y (by simp [hy])
    simp only [List.sum_cons]; omega
theorem sumOk_nonneg {xs : List Int} (h : ∀ x ∈ xs, 0 ≤ x) (hs : xs.sum ≤ 4000000000000000000) : SumOk xs := fun k => by
  have h1 := sum_nonneg9 (xs := xs.take k) fun x hx => h x (List.mem_of_mem_take hx)
  have h2 := sum_nonneg9 (xs := xs.drop k) fun x hx => h x (List.mem_of_mem_drop hx)
  have h3 : (xs.take k).sum + (xs.drop k).sum = xs.sum := by rw [← List.sum_append, List.take_append_drop]
  omega
theorem dv_good {b : Bas} {xs : List Holding} {a s K T : Int} (h : keptPart a s = (K, T)) (hd : (dvP b xs a s).2 = 0) : SumOk (dvP b xs a s).1 ∧ (dvP b xs a s).1.sum = a - K := by
  obtain ⟨ha, hs, rfl, _, _, _, hk⟩ := kept_good h (dv_kept h hd)
  unfold dvP at hd ⊢
  split
  case isTrue hp =>
    rw [if_pos hp] at hd
    split
    case isTrue k =>
      rw [if_pos k] at hd
      unfold shP at hd ⊢
      split
      case isTrue h0 => rw [if_pos h0] at hd; simp at hd
      case isFalse h0 =>
        have hw := weights_bound (b := b) (port_hold hp).2
        have hn := sum_nonneg9 fun x hx => (hw x hx).1
        have hpos : 0 < (weightsL b xs).sum := by omega
        have hsum := sharesL_sum (a := a - ceilDiv (a * s) 1000) hpos
        refine ⟨sumOk_nonneg ?_ (by rw [hsum]; omega), hsum⟩
        unfold sharesL
        refine rounds_nonneg _ _ ?_ _
        intro x hx
        obtain ⟨w, hwm, rfl⟩ := List.mem_map.1 hx
        exact Int.ediv_nonneg (Int.mul_nonneg (by omega) (hw w hwm).1) (by omega)
    case isFalse k => rw [if_neg k] at hd; simp at hd
  case isFalse hp => rw [if_neg hp] at hd; simp at hd
theorem dv_lenle (b : Bas) (xs : List Holding) (a s : Int) : (dvP b xs a s).1.length ≤ xs.length := by
  unfold dvP
  split
  · split
    · unfold shP
      split
      · simp
      · rw [sharesL_length, weights_length]; omega
    · simp
  · simp
theorem weightsP_lenle (b : Bas) (xs : List Holding) : (weightsP b xs).1.length ≤ xs.length := by
  unfold weightsP
  split
  · rw [weights_length]; omega
  · simp
end Go.Proofs.YtbjdbpdgacfcpaaGreat
end
