/- Parts of a proof, one after another: Port7, DrawZ, DrawLaw, Likes, Held. No condition. -/
import Derived.Test.YtbjdbpdgacfcpaaGreatK0
import Derived.Test.YtbjdbpdgacfcpaaGreatK1
import Derived.Test.YtbjdbpdgacfcpaaGreatK3
import Derived.Test.YtbjdbpdgacfcpaaGreatK13
import Derived.Test.YtbjdbpdgacfcpaaGreatK17
import Derived.Test.YtbjdbpdgacfcpaaGreatK18
/- The rate of a bonus: the program's and the reference's contracts. -/
section
namespace Go.Proofs.YtbjdbpdgacfcpaaGreat
open Go.RowKit Go.BigFrame

def rateP (b : Bas) (xs : List Holding) (a : Int) : Int × Int :=
  if portB b xs = true then (if inR a 0 1000000000 = true then (if (resL b xs).sum = 0 then (0, 5) else ((1000 * a).tdiv (resL b xs).sum, 0)) else (0, 2)) else (0, 1)
theorem resL_pos {b : Bas} {xs : List Holding} (hl : xs.length ≤ 30) (hh : ∀ x ∈ xs, holdB b x = true) : 0 ≤ (resL b xs).sum ∧ (resL b xs).sum ≤ 100000001000000 * (30 : Nat) :=
  (sums_of (n := 30) (hi := 100000001000000) (by omega) (by simpa [resL] using hl) (fun v hv => by
    obtain ⟨x, hx, rfl⟩ := List.mem_map.1 hv
    exact resV_bound (hh x hx)) (by omega)).2
theorem rate_bound {a t : Int} (h0 : 0 ≤ a) (h1 : a ≤ 1000000000) (ht : 0 < t) : 0 ≤ (1000 * a).tdiv t ∧ (1000 * a).tdiv t ≤ 1000000000000 := by
  rw [Int.tdiv_eq_ediv_of_nonneg (by omega)]
  have h2 : 0 ≤ 1000 * a / t := Int.ediv_nonneg (by omega) (by omega)
  have h3 : 1000 * a / t ≤ 1000 * a := Int.ediv_le_self _ (by omega)
  omega

set_option maxHeartbeats 4000000 in
theorem spec_BonusRate_any (b : Bas) (A : Option Addr) (n cap : Nat) (H : Option Addr) (m hcap : Nat) (xs : List Holding) (w : World) (hB : BasT w A n cap b) (hl : xs.length = m) (hm : m ≤ 1048576) (hX : Rd w w.heap.size H 7 (holdingRows xs)) (hf : ∀ x ∈ xs, x.fits) (a : Int) (_ha : In64 a) :
    Calls Tryz.prog 68 #[.agg #[.int .i64 b.first, .slice A n cap, .int .i64 b.rate], .slice H m hcap, .int .i64 a] w fun e w' => e = .returned (.tuple #[.int .i64 (rateP b xs a).1, .int .i64 (rateP b xs a).2]) ∧ Below w.heap.size w w' := by
  have hbw : Below w.heap.size w (w.alloc (.cells #[.int .i64 b.first, .slice A n cap, .int .i64 b.rate] 28)) := (Below.refl _ w).alloc (Nat.le_refl _) _
  have HB := Lib.hid (Blk.new w 28 #[.int .i64 b.first, .slice A n cap, .int .i64 b.rate])
  have HBT := Lib.hid (hB.past hbw); clear hB
  have HX := Lib.hid (hX.past hbw); clear hX
  have HL := Lib.hid hl; clear hl
  have HF := Lib.hid hf; clear hf
  have hcB0 := Lib.hid (Blk.agg (cs := [.int .i64 b.first, .slice A n cap, .int .i64 b.rate]) HB.out 0 [.int .i64 b.first, .slice A n cap, .int .i64 b.rate] rfl)
  cases hp : portB b xs
  · have Q := Lib.hid (show rateP b xs a = (0, 1) by simp [rateP, hp])
    have QT := Lib.hid (show totP b xs = (0, 1) by simp [totP, hp])
    go_enter Tryz.func68, Tryz.ntmps68
    go_wp2_with (refine wpList_load_agg rfl 28 _ rfl ⟨w.heap.size, 0, none⟩ rfl [.int .i64 b.first, .slice A n cap, .int .i64 b.rate] hcB0.out _ Tryz.underlying28 rfl Bas.size ?_)
    refine (spec_TotalReserve_any b A n cap H m hcap xs _ HBT.out HL.out hm HX.out HF.out).mono ?_
    rw [QT.out]
    rintro e w1 ⟨rfl, hb1⟩
    go_wp2_with (first | (go_at_call 131; refine (spec_l19Amount_any _ _).mono ?_; rintro e w' ⟨rfl, rfl⟩))
    go_ret2
    exact ⟨by rw [Q.out]; rfl, hbw.trans (hb1.mono hbw.size)⟩
  obtain ⟨h30, hh⟩ := port_hold hp
  obtain ⟨s0, s1⟩ := resL_pos h30 hh
  have HS := Lib.hid (resL_sums h30 hh)
  have HH := Lib.hid hh; clear hh
  have hm30 : m ≤ 30 := by have := HL.out; omega
  obtain ⟨T, hT0⟩ : ∃ T, (resL b xs).sum = T := ⟨_, rfl⟩
  have hT := Lib.hid hT0
  rw [hT0] at s0 s1
  clear hT0
  have QT := Lib.hid (show totP b xs = (T, 0) by simp [totP, hp, hT.out])
  cases hi : inR a 0 1000000000
  · have Q := Lib.hid (show rateP b xs a = (0, 2) by simp [rateP, hp, hi])
    go_enter Tryz.func68, Tryz.ntmps68
    go_wp2_with (refine wpList_load_agg rfl 28 _ rfl ⟨w.heap.size, 0, none⟩ rfl [.int .i64 b.first, .slice A n cap, .int .i64 b.rate] hcB0.out _ Tryz.underlying28 rfl Bas.size ?_)
    refine (spec_TotalReserve_any b A n cap H m hcap xs _ HBT.out HL.out hm HX.out HF.out).mono ?_
    rw [QT.out]
    rintro e w1 ⟨rfl, hb1⟩
    go_wp2_with (first | (go_at_call 131; refine (spec_l19Amount_any _ _).mono ?_; rintro e w' ⟨rfl, rfl⟩))
    go_ret2
    exact ⟨by rw [Q.out]; rfl, hbw.trans (hb1.mono hbw.size)⟩
  obtain ⟨a0, a1⟩ := inR_true.1 hi
  by_cases ht : T = 0
  · have Q := Lib.hid (show rateP b xs a = (0, 5) by simp [rateP, hp, hi, hT.out, ht])
    have HM := Lib.hid (Int.mul_comm a 1000)
    have hz : (T == 0) = true := by simp [ht]
    clear ht
    go_enter Tryz.func68, Tryz.ntmps68
    go_wp2_with (refine wpList_load_agg rfl 28 _ rfl ⟨w.heap.size, 0, none⟩ rfl [.int .i64 b.first, .slice A n cap, .int .i64 b.rate] hcB0.out _ Tryz.underlying28 rfl Bas.size ?_)
    refine (spec_TotalReserve_any b A n cap H m hcap xs _ HBT.out HL.out hm HX.out HF.out).mono ?_
    rw [QT.out]
    rintro e w1 ⟨rfl, hb1⟩
    go_wp2_with (first | (go_at_call 131; refine (spec_l19Amount_any _ _).mono ?_; rintro e w' ⟨rfl, rfl⟩))
    go_ret2
    exact ⟨by rw [Q.out]; rfl, hbw.trans (hb1.mono hbw.size)⟩
  · have Q := Lib.hid (show rateP b xs a = ((1000 * a).tdiv T, 0) by simp [rateP, hp, hi, hT.out, ht])
    have HM := Lib.hid (Int.mul_comm a 1000)
    have hz : (T == 0) = false := by simp [ht]
    obtain ⟨r0, r1⟩ := rate_bound a0 a1 (show 0 < T by omega)
    have r2 := r0; have r3 := r1
    rw [Int.mul_comm] at r2 r3
    go_enter Tryz.func68, Tryz.ntmps68
    go_wp2_with (refine wpList_load_agg rfl 28 _ rfl ⟨w.heap.size, 0, none⟩ rfl [.int .i64 b.first, .slice A n cap, .int .i64 b.rate] hcB0.out _ Tryz.underlying28 rfl Bas.size ?_)
    refine (spec_TotalReserve_any b A n cap H m hcap xs _ HBT.out HL.out hm HX.out HF.out).mono ?_
    rw [QT.out]
    rintro e w1 ⟨rfl, hb1⟩
    go_wp2_with (first | (go_at_call 131; refine (spec_l19Amount_any _ _).mono ?_; rintro e w' ⟨rfl, rfl⟩))
    go_ret2
    exact ⟨by rw [Q.out]; rfl, hbw.trans (hb1.mono hbw.size)⟩

set_option maxHeartbeats 4000000 in
theorem impl_BonusRate_any (b : Bas) (A : Option Addr) (n cap : Nat) (H : Option Addr) (m hcap : Nat) (xs : List Holding) (w : World) (hB : BasT w A n cap b) (hl : xs.length = m) (hm : m ≤ 1048576) (hX : Rd w w.heap.size H 7 (holdingRows xs)) (hf : ∀ x ∈ xs, x.fits) (a : Int) (_ha : In64 a) :
    Calls Tryz.prog 67 #[.agg #[.int .i64 b.first, .slice A n cap, .int .i64 b.rate], .slice H m hcap, .int .i64 a] w fun e w' => e = .returned (.tuple #[.int .i64 (rateP b xs a).1, .int .i64 (rateP b xs a).2]) ∧ Below w.heap.size w w' := by
  have hbw : Below w.heap.size w (w.alloc (.cells #[.int .i64 b.first, .slice A n cap, .int .i64 b.rate] 28)) := (Below.refl _ w).alloc (Nat.le_refl _) _
  have HB := Lib.hid (Blk.new w 28 #[.int .i64 b.first, .slice A n cap, .int .i64 b.rate])
  have HBT := Lib.hid (hB.past hbw); clear hB
  have HX := Lib.hid (hX.past hbw); clear hX
  have HL := Lib.hid hl; clear hl
  have HF := Lib.hid hf; clear hf
  have hcB0 := Lib.hid (Blk.agg (cs := [.int .i64 b.first, .slice A n cap, .int .i64 b.rate]) HB.out 0 [.int .i64 b.first, .slice A n cap, .int .i64 b.rate] rfl)
  cases hp : portB b xs
  · have Q := Lib.hid (show rateP b xs a = (0, 1) by simp [rateP, hp])
    have QT := Lib.hid (show totP b xs = (0, 1) by simp [totP, hp])
    go_enter Tryz.func67, Tryz.ntmps67
    go_wp2_with (refine wpList_load_agg rfl 28 _ rfl ⟨w.heap.size, 0, none⟩ rfl [.int .i64 b.first, .slice A n cap, .int .i64 b.rate] hcB0.out _ Tryz.underlying28 rfl Bas.size ?_)
    refine (impl_IsPortfolio_any b A n cap H m hcap xs _ HBT.out HL.out hm HX.out HF.out).mono ?_
    rw [hp]
    rintro e w1 ⟨rfl, hb1⟩
    have HBT1 := Lib.hid (HBT.out.past hb1)
    have HX1 := Lib.hid (HX.out.past hb1)
    have hb01 := hbw.trans (hb1.mono hbw.size)
    have hcB1 := Lib.hid (Blk.agg (cs := [.int .i64 b.first, .slice A n cap, .int .i64 b.rate]) (HB.out.below' hb1) 0 [.int .i64 b.first, .slice A n cap, .int .i64 b.rate] rfl)
    go_wp2
    go_ret2
    exact ⟨by rw [Q.out]; rfl, hb01⟩
  obtain ⟨h30, hh⟩ := port_hold hp
  obtain ⟨s0, s1⟩ := resL_pos h30 hh
  have HS := Lib.hid (resL_sums h30 hh)
  have HH := Lib.hid hh; clear hh
  have hm30 : m ≤ 30 := by have := HL.out; omega
  obtain ⟨T, hT0⟩ : ∃ T, (resL b xs).sum = T := ⟨_, rfl⟩
  have hT := Lib.hid hT0
  rw [hT0] at s0 s1
  clear hT0
  have QT := Lib.hid (show totP b xs = (T, 0) by simp [totP, hp, hT.out])
  cases hi : inR a 0 1000000000
  · have Q := Lib.hid (show rateP b xs a = (0, 2) by simp [rateP, hp, hi])
    go_enter Tryz.func67, Tryz.ntmps67
    go_wp2_with (refine wpList_load_agg rfl 28 _ rfl ⟨w.heap.size, 0, none⟩ rfl [.int .i64 b.first, .slice A n cap, .int .i64 b.rate] hcB0.out _ Tryz.underlying28 rfl Bas.size ?_)
    refine (impl_IsPortfolio_any b A n cap H m hcap xs _ HBT.out HL.out hm HX.out HF.out).mono ?_
    rw [hp]
    rintro e w1 ⟨rfl, hb1⟩
    have HBT1 := Lib.hid (HBT.out.past hb1)
    have HX1 := Lib.hid (HX.out.past hb1)
    have hb01 := hbw.trans (hb1.mono hbw.size)
    have hcB1 := Lib.hid (Blk.agg (cs := [.int .i64 b.first, .slice A n cap, .int .i64 b.rate]) (HB.out.below' hb1) 0 [.int .i64 b.first, .slice A n cap, .int .i64 b.rate] rfl)
    go_wp2_with (first | (go_at_call 133; refine (impl_isAmount_any _ _).mono ?_; rintro e w' ⟨rfl, rfl⟩))
    go_ret2
    exact ⟨by rw [Q.out]; rfl, hb01⟩
  obtain ⟨a0, a1⟩ := inR_true.1 hi
  by_cases ht : T = 0
  · have Q := Lib.hid (show rateP b xs a = (0, 5) by simp [rateP, hp, hi, hT.out, ht])
    have HM := Lib.hid (Int.mul_comm a 1000)
    have hz : (T == 0) = true := by simp [ht]
    clear ht
    go_enter Tryz.func67, Tryz.ntmps67
    go_wp2_with (refine wpList_load_agg rfl 28 _ rfl ⟨w.heap.size, 0, none⟩ rfl [.int .i64 b.first, .slice A n cap, .int .i64 b.rate] hcB0.out _ Tryz.underlying28 rfl Bas.size ?_)
    refine (impl_IsPortfolio_any b A n cap H m hcap xs _ HBT.out HL.out hm HX.out HF.out).mono ?_
    rw [hp]
    rintro e w1 ⟨rfl, hb1⟩
    have HBT1 := Lib.hid (HBT.out.past hb1)
    have HX1 := Lib.hid (HX.out.past hb1)
    have hb01 := hbw.trans (hb1.mono hbw.size)
    have hcB1 := Lib.hid (Blk.agg (cs := [.int .i64 b.first, .slice A n cap, .int .i64 b.rate]) (HB.out.below' hb1) 0 [.int .i64 b.first, .slice A n cap, .int .i64 b.rate] rfl)
    go_wp2_with (first | (go_at_call 133; refine (impl_isAmount_any _ _).mono ?_; rintro e w' ⟨rfl, rfl⟩) | (refine wpList_load_agg rfl 28 _ rfl ⟨w.heap.size, 0, none⟩ rfl [.int .i64 b.first, .slice A n cap, .int .i64 b.rate] hcB1.out _ Tryz.underlying28 rfl Bas.size ?_))
    refine (impl_reserves_any b A n cap H m hcap xs _ HBT1.out HL.out hm30 HX1.out HH.out).mono ?_
    rintro e w2 ⟨A', c', rfl, hR, hb2⟩
    have HR := Lib.hid hR.rd; clear hR
    have hb02 := hb01.trans (hb2.mono hb01.size)
    go_wp2_with fail
    refine (impl_total_any A' m c' (resL b xs) _ (by rw [resL, List.length_map]; exact HL.out) hm HR.out HS.out).mono ?_
    rw [hT.out]
    rintro e w3 ⟨rfl, rfl⟩
    go_wp2
    go_ret2
    exact ⟨by rw [Q.out]; first | rfl | (simp [HM.out]; done), hb02⟩
  · have Q := Lib.hid (show rateP b xs a = ((1000 * a).tdiv T, 0) by simp [rateP, hp, hi, hT.out, ht])
    have HM := Lib.hid (Int.mul_comm a 1000)
    have hz : (T == 0) = false := by simp [ht]
    obtain ⟨r0, r1⟩ := rate_bound a0 a1 (show 0 < T by omega)
    have r2 := r0; have r3 := r1
    rw [Int.mul_comm] at r2 r3
    go_enter Tryz.func67, Tryz.ntmps67
    go_wp2_with (refine wpList_load_agg rfl 28 _ rfl ⟨w.heap.size, 0, none⟩ rfl [.int .i64 b.first, .slice A n cap, .int .i64 b.rate] hcB0.out _ Tryz.underlying28 rfl Bas.size ?_)
    refine (impl_IsPortfolio_any b A n cap H m hcap xs _ HBT.out HL.out hm HX.out HF.out).mono ?_
    rw [hp]
    rintro e w1 ⟨rfl, hb1⟩
    have HBT1 := Lib.hid (HBT.out.past hb1)
    have HX1 := Lib.hid (HX.out.past hb1)
    have hb01 := hbw.trans (hb1.mono hbw.size)
    have hcB1 := Lib.hid (Blk.agg (cs := [.int .i64 b.first, .slice A n cap, .int .i64 b.rate]) (HB.out.below' hb1) 0 [.int .i64 b.first, .slice A n cap, .int .i64 b.rate] rfl)
    go_wp2_with (first | (go_at_call 133; refine (impl_isAmount_any _ _).mono ?_; rintro e w' ⟨rfl, rfl⟩) | (refine wpList_load_agg rfl 28 _ rfl ⟨w.heap.size, 0, none⟩ rfl [.int .i64 b.first, .slice A n cap, .int .i64 b.rate] hcB1.out _ Tryz.underlying28 rfl Bas.size ?_))
    refine (impl_reserves_any b A n cap H m hcap xs _ HBT1.out HL.out hm30 HX1.out HH.out).mono ?_
    rintro e w2 ⟨A', c', rfl, hR, hb2⟩
    have HR := Lib.hid hR.rd; clear hR
    have hb02 := hb01.trans (hb2.mono hb01.size)
    go_wp2_with fail
    refine (impl_total_any A' m c' (resL b xs) _ (by rw [resL, List.length_map]; exact HL.out) hm HR.out HS.out).mono ?_
    rw [hT.out]
    rintro e w3 ⟨rfl, rfl⟩
    go_wp2
    go_ret2
    exact ⟨by rw [Q.out]; first | rfl | (simp [HM.out]; done), hb02⟩

end Go.Proofs.YtbjdbpdgacfcpaaGreat
end

/- Draws of a fund, of scenarios (printed by drawz.py). -/
section
namespace Go.Proofs.YtbjdbpdgacfcpaaGreat
open Go.RowKit Go.BigFrame

theorem Blk.c3 {w : World} {g : Nat} {t : TypeId} {a b c : Value} (h : Blk w g t #[a, b, c]) : w.cell? ⟨g, 0, none⟩ = some a ∧ w.cell? ⟨g, 1, none⟩ = some b ∧ w.cell? ⟨g, 2, none⟩ = some c := ⟨h.cell 0, h.cell 1, h.cell 2⟩
/-- the boxes of a draw with one more list -/
structure D17 (K : Code) (g B : Nat) (w W : World) (Gb : Nat) (b : Bas) (A : Option Addr) (n c : Nat) (A2 : Option Addr) (k c2 : Nat) (xs : List Holding) (t : TypeId) (sz : Nat) (A3 : Option Addr) (m c3 : Nat) (rows : List (List Value)) : Prop where
  z : Blk W w.heap.size 28 #[.int .i64 0, .slice none 0 0, .int .i64 0]
  bas : Blk W Gb 28 #[.int .i64 b.first, .slice A n c, .int .i64 b.rate]
  pb : PB B W b A n c A2 k c2 xs
  res : Res B W t sz A3 m c3 rows
  al : ∀ x, blkOf A3 = some x → Gb < x
  ag : ∀ x, (A = some ⟨x, 0, none⟩ ∨ A2 = some ⟨x, 0, none⟩) → x < Gb
  src : Src K g W
  bl : Below w.heap.size w W
  o1 : w.heap.size < g
  o2 : g < B
  o3 : B ≤ Gb
namespace D17
variable {K : Code} {g B : Nat} {w W W' : World} {Gb : Nat} {b : Bas} {A : Option Addr} {n c : Nat} {A2 : Option Addr} {k c2 : Nat} {xs : List Holding} {t : TypeId} {sz : Nat} {A3 : Option Addr} {m c3 : Nat} {rows : List (List Value)}
theorem nxx (h : D17 K g B w W Gb b A n c A2 k c2 xs t sz A3 m c3 rows) (hN : Nx K g W W') : D17 K g B w W' Gb b A n c A2 k c2 xs t sz A3 m c3 rows := by
  have h1 := h.o1; have h2 := h.o2; have h3 := h.o3
  exact { h with z := h.z.nx hN (by omega), bas := h.bas.nx hN (by omega), pb := h.pb.nxx hN h2, res := h.res.nx hN h2, src := hN.src, bl := h.bl.trans (hN.below.mono (by omega)) }
theorem past (h : D17 K g B w W Gb b A n c A2 k c2 xs t sz A3 m c3 rows) (hb : Below W.heap.size W W') : D17 K g B w W' Gb b A n c A2 k c2 xs t sz A3 m c3 rows :=
  { h with z := h.z.below' hb, bas := h.bas.below' hb, pb := h.pb.past hb, res := h.res.past hb, src := h.src.past hb, bl := h.bl.trans (hb.mono h.bl.size) }
theorem hB (h : D17 K g B w W Gb b A n c A2 k c2 xs t sz A3 m c3 rows) : B ≤ W.heap.size := by
  have h1 := h.o3; have h2 := h.bas.lt; omega
/-- the list has grown -/
theorem app (h : D17 K g B w W Gb b A n c A2 k c2 xs t sz A3 m c3 rows) {A5 : Option Addr} {m5 c5 : Nat} {rows5 : List (List Value)} (hR : Res B W' t sz A5 m5 c5 rows5) (hb : Below B W W') (hk : KeptBut W W' A3) (ho : ∀ x, blkOf A5 = some x → blkOf A3 = some x ∨ W.heap.size ≤ x) :
    D17 K g B w W' Gb b A n c A2 k c2 xs t sz A5 m5 c5 rows5 := by
  have h1 := h.o1; have h2 := h.o2; have h3 := h.o3; have h4 := h.bas.lt
  have key : ∀ x, x ≤ Gb → W'.heap[x]? = W.heap[x]? := fun x hx => hk x (by omega) (fun e => by have := h.al x e.symm; omega)
  refine { h with z := (key _ (by omega)).trans h.z, bas := (key _ (Nat.le_refl _)).trans h.bas, pb := { h.pb with liv := h.pb.liv.keep fun a ha => key a (Nat.le_of_lt (h.ag a (.inl ha))), res := h.pb.res.keep fun a ha => key a (Nat.le_of_lt (h.ag a (.inr ha))) }, res := hR, al := fun x hx => ?_, src := ?_, bl := h.bl.trans (hb.mono (by omega)) }
  · rcases ho x hx with ho | ho
    · exact h.al x ho
    · omega
  · obtain ⟨p, s, hk', hp, hs⟩ := h.src.blk
    exact ⟨h.src.rd.below (hb.mono (by omega)), p, s, (key g (by omega)).trans hk', hp, hs⟩
/-- the result's box is filled -/
theorem fin (h : D17 K g B w W Gb b A n c A2 k c2 xs t sz A3 m c3 rows) :
    Blk (((W.setCell ⟨w.heap.size, 0, none⟩ (.int .i64 b.first)).setCell ⟨w.heap.size, 1, none⟩ (.slice A n c)).setCell ⟨w.heap.size, 2, none⟩ (.int .i64 b.rate)) w.heap.size 28 #[.int .i64 b.first, .slice A n c, .int .i64 b.rate] ∧
    PB B (((W.setCell ⟨w.heap.size, 0, none⟩ (.int .i64 b.first)).setCell ⟨w.heap.size, 1, none⟩ (.slice A n c)).setCell ⟨w.heap.size, 2, none⟩ (.int .i64 b.rate)) b A n c A2 k c2 xs ∧
    Res B (((W.setCell ⟨w.heap.size, 0, none⟩ (.int .i64 b.first)).setCell ⟨w.heap.size, 1, none⟩ (.slice A n c)).setCell ⟨w.heap.size, 2, none⟩ (.int .i64 b.rate)) t sz A3 m c3 rows ∧
    Below w.heap.size w (((W.setCell ⟨w.heap.size, 0, none⟩ (.int .i64 b.first)).setCell ⟨w.heap.size, 1, none⟩ (.slice A n c)).setCell ⟨w.heap.size, 2, none⟩ (.int .i64 b.rate)) := by
  have h1 := h.o1; have h2 := h.o2
  have hz : w.heap.size < B := by omega
  refine ⟨by simpa using ((h.z.set_ 0 (.int .i64 b.first)).set_ 1 (.slice A n c)).set_ 2 (.int .i64 b.rate), ((h.pb.low hz 0 _).low hz 1 _).low hz 2 _, ((h.res.low hz 0 _).low hz 1 _).low hz 2 _, ((h.bl.setCell (p := ⟨w.heap.size, 0, none⟩) (Nat.le_refl _) _).setCell (p := ⟨w.heap.size, 1, none⟩) (Nat.le_refl _) _).setCell (p := ⟨w.heap.size, 2, none⟩) (Nat.le_refl _) _⟩
end D17
theorem D17.far {K : Code} {g B : Nat} {w W : World} {Gb : Nat} {b : Bas} {A : Option Addr} {n c : Nat} {A2 : Option Addr} {k c2 : Nat} {xs : List Holding} {t : TypeId} {sz : Nat} {A3 : Option Addr} {m c3 : Nat} {rows : List (List Value)} (h : D17 K g B w W Gb b A n c A2 k c2 xs t sz A3 m c3 rows) {G : Nat} (hG : Gb < G) (hA : ∀ x, blkOf A3 = some x → x ≠ G) (i : Nat) (v : Value) : D17 K g B w (W.setCell ⟨G, i, none⟩ v) Gb b A n c A2 k c2 xs t sz A3 m c3 rows := by
  have h1 := h.o1; have h2 := h.o2; have h3 := h.o3
  refine { h with z := h.z.far (by show w.heap.size ≠ G; omega) v, bas := h.bas.far (by show Gb ≠ G; omega) v, pb := { h.pb with liv := h.pb.liv.keep fun a ha => Below.heap_setCell _ _ _ _ (by have := h.ag a (.inl ha); show a ≠ G; omega), res := h.pb.res.keep fun a ha => Below.heap_setCell _ _ _ _ (by have := h.ag a (.inr ha); show a ≠ G; omega) }, res := h.res.keep fun a ha => Below.heap_setCell _ _ _ _ (hA a (by rw [ha]; rfl)), src := ?_, bl := h.bl.setCell (p := ⟨G, i, none⟩) (by show w.heap.size ≤ G; omega) v }
  obtain ⟨p, s, hk, hp, hs⟩ := h.src.blk
  exact ⟨h.src.rd.below ((Below.refl g W).setCell (p := ⟨G, i, none⟩) (by show g ≤ G; omega) v), p, s, hk.far (by show g ≠ G; omega) v, hp, hs⟩
theorem scen_snoc {w : World} {B : Nat} {t : TypeId} {A : Option Addr} {m c : Nat} (ys : List Scenario) (r d : Int) (h : Res B w t 2 A m c (scenarioRows ys ++ [[.int .i64 r, .int .i64 d]])) : Res B w t 2 A m c (scenarioRows (ys ++ [⟨r, d⟩])) := by
  have e : scenarioRows (ys ++ [⟨r, d⟩]) = scenarioRows ys ++ [[.int .i64 r, .int .i64 d]] := by simp [scenarioRows, Scenario.row]
  rw [e]; exact h
theorem scen_all {ys : List Scenario} {r d : Int} (h : ∀ s ∈ ys, s.fits) (hr : (-1000 ≤ r ∧ r ≤ 1000) ∧ -1000 ≤ d ∧ d ≤ 1000) : ∀ s ∈ ys ++ [(⟨r, d⟩ : Scenario)], s.fits := by
  intro s hs
  rcases List.mem_append.1 hs with hs | hs
  · exact h s hs
  · simp only [List.mem_singleton] at hs; rw [hs]
    show In64 r ∧ In64 d
    unfold In64; omega
theorem scen_zeros {n : Nat} : ∀ s ∈ List.replicate n (⟨0, 0⟩ : Scenario), s.fits := by
  intro s hs
  rw [List.eq_of_mem_replicate hs]
  show In64 0 ∧ In64 0
  unfold In64; omega
theorem blk_new {n x : Nat} {P : Prop} (h : blkOf (some ⟨n, 0, none⟩) = some x) : P ∨ n ≤ x := by
  have : n = x := by injection h
  exact .inr (by omega)
def zeroScen (n : Nat) : Array Value := madeCells (Value.agg #[.int .i64 0, .int .i64 0]).cells (n * 2)
theorem Res.madeS (w : World) (B n : Nat) (hB : B ≤ w.heap.size) (hn : n = 20 ∨ n = 21) : Res B (w.alloc (.cells (zeroScen n) 31)) 31 2 (some ⟨w.heap.size, 0, none⟩) n n (scenarioRows (List.replicate n ⟨0, 0⟩)) := by
  rcases hn with rfl | rfl
  · have h := World.ownsRow_lit (base := B) (e := 31) (size := 2) w (zeroScen 20) 20 hB (by unfold maxLen; omega) (by kernel_rfl)
    have e : (zeroScen 20).toList = (scenarioRows (List.replicate 20 ⟨0, 0⟩)).flatten := by kernel_rfl
    rw [e] at h
    exact ⟨h, by simp [scenarioRows], scenarioRows_all _⟩
  · have h := World.ownsRow_lit (base := B) (e := 31) (size := 2) w (zeroScen 21) 21 hB (by unfold maxLen; omega) (by kernel_rfl)
    have e : (zeroScen 21).toList = (scenarioRows (List.replicate 21 ⟨0, 0⟩)).flatten := by kernel_rfl
    rw [e] at h
    exact ⟨h, by simp [scenarioRows], scenarioRows_all _⟩
theorem tot_bound (b : Bas) (xs : List Holding) : 0 ≤ (totP b xs).1 ∧ (totP b xs).1 ≤ 4000000000000000 := by
  unfold totP
  split
  · rename_i h
    obtain ⟨h1, h2⟩ := port_hold h
    have := resL_pos h1 h2
    simp only
    omega
  · simp
set_option maxRecDepth 100000 in
set_option maxHeartbeats 8000000 in
theorem spec_DrawMostDeaths_any (K : Code) (hK : K.Ok) (w : World) (hX : Rd w w.heap.size K.A 1 (byteRows K.bs)) :
    Calls Tryz.prog 31 #[.slice K.A K.n K.c] w fun e w' => ∃ (b : Bas) (A : Option Addr) (n c : Nat) (A2 : Option Addr) (k c2 : Nat) (xs : List Holding) (v : Int), e = .returned (.tuple #[.agg #[.int .i64 b.first, .slice A n c, .int .i64 b.rate], .slice A2 k c2, .int .i64 v]) ∧ PB w.heap.size w' b A n c A2 k c2 xs ∧ In64 v ∧ Below w.heap.size w w' := by
  have hb0 : Below w.heap.size w (w.alloc (.cells #[.int .i64 0, .slice none 0 0, .int .i64 0] 28)) := (Below.refl _ w).alloc (Nat.le_refl _) _
  have HZ0 := Lib.hid (Blk.new w 28 #[.int .i64 0, .slice none 0 0, .int .i64 0])
  have hX := hX.past hb0
  have HBW := Lib.hid hb0; clear hb0
  have H1 := Lib.hid (show w.heap.size + 1 ≤ (w.alloc (.cells #[.int .i64 0, .slice none 0 0, .int .i64 0] 28)).heap.size by simp)
  go_enter Tryz.func31, Tryz.ntmps31
  go_wp2_with fail
  generalize w.alloc (.cells #[.int .i64 0, .slice none 0 0, .int .i64 0] 28) = Wa at HZ0 HBW H1 hX ⊢
  refine (spec_l01From_any K hK _ hX).mono ?_
  rintro e w1 ⟨g, rfl, hg, hb, hS⟩
  clear hX
  have hT := Nx.refl hS
  go_upto_region 3 with (go_at_call 73; refine (spec_l17Draw_pb K hK g _ _ hT).mono ?_; rintro e w2 ⟨b, A1, n1, c1, A2, k, c2, xs, rfl, hP, hT⟩)
  have HQ := Lib.hid (show D17 K g w1.heap.size w (w2.alloc (.cells #[.int .i64 b.first, .slice A1 n1 c1, .int .i64 b.rate] 28)) w2.heap.size b A1 n1 c1 A2 k c2 xs 2 1 none 0 0 [] from by
    have hsz := H1.out
    have hg1 : g < w1.heap.size := hS.lt
    have h12 := hT.size
    have hb2 := (Below.refl w2.heap.size w2).alloc (Nat.le_refl _) (.cells #[.int .i64 b.first, .slice A1 n1 c1, .int .i64 b.rate] 28)
    refine ⟨((HZ0.out.below' hb).nx hT (by omega)).below' hb2, (Blk.new w2 _ _), hP.past hb2, Res.nil_, (fun x hx => by cases hx), (fun x hx => ?_), hT.src.past hb2, (HBW.out.trans ((hb.mono (by omega)).trans (hT.below.mono (by omega)))).trans (hb2.mono (by have := HBW.out.size; have := hb.size; omega)), by omega, hg1, h12⟩
    rcases hx with hx | hx
    · exact (hP.liv.lt hx).2
    · exact (hP.res.lt hx).2)
  have hkl := hP.len
  have HXL := Lib.hid hP.xlen
  have HFI := Lib.hid hP.fits
  clear hP hT hb HZ0 HBW
  generalize w2.alloc (.cells #[.int .i64 b.first, .slice A1 n1 c1, .int .i64 b.rate] 28) = W0 at HQ ⊢
  generalize w2.heap.size = Gb at HQ ⊢
  have hT := Nx.refl HQ.out.src
  have hcB := Lib.hid (Blk.agg (cs := [.int .i64 b.first, .slice A1 n1 c1, .int .i64 b.rate]) HQ.out.bas 0 [.int .i64 b.first, .slice A1 n1 c1, .int .i64 b.rate] rfl)
  have hTB := tot_bound b xs
  cases hc : ((totP b xs).2 == 0)
  all_goals
    generalize htt : (totP b xs).1 = T at hTB ⊢
    have HTT := Lib.hid htt; clear htt
    obtain ⟨t0, t1⟩ := hTB
    go_upto_if 29 with (first | (refine wpList_load_agg rfl 28 _ rfl ⟨Gb, 0, none⟩ rfl [.int .i64 b.first, .slice A1 n1 c1, .int .i64 b.rate] hcB.out _ Tryz.underlying28 rfl Bas.size ?_) | (go_at_call 37; refine (spec_TotalReserve_any b A1 n1 c1 A2 k c2 xs _ HQ.out.pb.basT HXL.out (by omega) HQ.out.pb.res.rd HFI.out).mono ?_; rw [HTT.out]; rintro e w4 ⟨rfl, hb4⟩; have HQ := Lib.hid (HQ.out.past hb4); have hT := Nx.refl HQ.out.src) | (go_at_call 102; refine (spec_l01Next_any K hK g _ _ _ (by first | exact hT | exact hT.alloc _ | exact (hT.alloc _).alloc _ | exact hT.drew)).mono ?_; rintro e w3 ⟨y, rfl, ⟨hy0, hy1⟩, hTy⟩; have HQ := Lib.hid (HQ.out.nxx hTy); clear hTy; have hT := Nx.refl HQ.out.src))
  · go_upto_region 6 with fail
    have HN := Lib.hid hT
    obtain ⟨b0, b1, b2⟩ := HQ.out.bas.c3
    go_region_law (go_simp; go_at_call 105; refine (spec_l21DrawFund_any K hK g _ _ (by first | exact HN.out | exact HN.out.drew)).mono ?_; rintro e w3 ⟨d, rfl, hd, hTv⟩; have HQ3 := Lib.hid (HQ.out.nxx hTv); have b0 : w3.cell? ⟨Gb, 0, none⟩ = some (.int .i64 b.first) := HQ3.out.bas.cell 0; have b1 : w3.cell? ⟨Gb, 1, none⟩ = some (.slice A1 n1 c1) := HQ3.out.bas.cell 1; have b2 : w3.cell? ⟨Gb, 2, none⟩ = some (.int .i64 b.rate) := HQ3.out.bas.cell 2; have zc0 : w3.cell? ⟨w.heap.size, 0, none⟩ = some (.int .i64 0) := HQ3.out.z.cell 0; have zf0 : w3.frozen? ⟨w.heap.size, 0, none⟩ = false := HQ3.out.z.frozen 0; have zc1 : w3.cell? ⟨w.heap.size, 1, none⟩ = some (.slice none 0 0) := HQ3.out.z.cell 1; have zf1 : w3.frozen? ⟨w.heap.size, 1, none⟩ = false := HQ3.out.z.frozen 1; have zc2 : w3.cell? ⟨w.heap.size, 2, none⟩ = some (.int .i64 0) := HQ3.out.z.cell 2; have zf2 : w3.frozen? ⟨w.heap.size, 2, none⟩ = false := HQ3.out.z.frozen 2)
    all_goals
      have hd : -1 ≤ d ∧ d ≤ 1000000000001 := hd
      obtain ⟨hz9, hp9, hr9, hb9⟩ := HQ3.out.fin
      clear zc0 zf0 zc1 zf1 zc2 zf2
      generalize ((w3.setCell ⟨w.heap.size, 0, none⟩ (.int .i64 b.first)).setCell ⟨w.heap.size, 1, none⟩ (.slice A1 n1 c1)).setCell ⟨w.heap.size, 2, none⟩ (.int .i64 b.rate) = W9 at hz9 hp9 hr9 hb9 ⊢
      have q0 : W9.cell? ⟨w.heap.size, 0, none⟩ = some (.int .i64 b.first) := hz9.cell 0
      have q1 : W9.cell? ⟨w.heap.size, 1, none⟩ = some (.slice A1 n1 c1) := hz9.cell 1
      have q2 : W9.cell? ⟨w.heap.size, 2, none⟩ = some (.int .i64 b.rate) := hz9.cell 2
      have hwB : w.heap.size ≤ w1.heap.size := by have h1 := HQ3.out.o1; have h2 := HQ3.out.o2; omega
      go_wp2_with fail
      refine bodyPost_ret (v := .tuple #[.agg #[.int .i64 b.first, .slice A1 n1 c1, .int .i64 b.rate], .slice A2 k c2, .int .i64 d]) (by simp [results, Tryz.results31, go_sem, q0, q1, q2]) rfl ?_
      exact ⟨b, A1, n1, c1, A2, k, c2, xs, d, rfl, hp9.more hwB, (by unfold In64; omega), hb9⟩
  · go_wp2_with fail
    · have HN := Lib.hid hT
      obtain ⟨b0, b1, b2⟩ := HQ.out.bas.c3
      have e0 : IntKind.i64.wrap (T.tdiv 4) = T / 4 := by rw [Int.tdiv_eq_ediv_of_nonneg t0]; exact IntWalk.i64_in _ (by omega)
      have e1 : IntKind.i64.wrap (T / 4 + 2) = T / 4 + 2 := IntWalk.i64_in _ (by omega)
      go_region_law (go_simp; go_at_call 102; refine (spec_l01Next_any K hK g _ _ _ (by first | exact HN.out | exact HN.out.drew)).mono ?_; rintro e w3 ⟨x5, rfl, ⟨hx50, hx51⟩, hTv⟩; have HQ3 := Lib.hid (HQ.out.nxx hTv); have b0 : w3.cell? ⟨Gb, 0, none⟩ = some (.int .i64 b.first) := HQ3.out.bas.cell 0; have b1 : w3.cell? ⟨Gb, 1, none⟩ = some (.slice A1 n1 c1) := HQ3.out.bas.cell 1; have b2 : w3.cell? ⟨Gb, 2, none⟩ = some (.int .i64 b.rate) := HQ3.out.bas.cell 2; have zc0 : w3.cell? ⟨w.heap.size, 0, none⟩ = some (.int .i64 0) := HQ3.out.z.cell 0; have zf0 : w3.frozen? ⟨w.heap.size, 0, none⟩ = false := HQ3.out.z.frozen 0; have zc1 : w3.cell? ⟨w.heap.size, 1, none⟩ = some (.slice none 0 0) := HQ3.out.z.cell 1; have zf1 : w3.frozen? ⟨w.heap.size, 1, none⟩ = false := HQ3.out.z.frozen 1; have zc2 : w3.cell? ⟨w.heap.size, 2, none⟩ = some (.int .i64 0) := HQ3.out.z.cell 2; have zf2 : w3.frozen? ⟨w.heap.size, 2, none⟩ = false := HQ3.out.z.frozen 2)
      all_goals
        have hx5 : x5 ≤ 1000000000000001 := by first | omega | (rw [e0, e1] at hx51; omega)
        rw [show IntKind.i64.wrap (T + x5) = T + x5 from IntWalk.i64_in _ (by omega)]
        obtain ⟨hz9, hp9, hr9, hb9⟩ := HQ3.out.fin
        clear zc0 zf0 zc1 zf1 zc2 zf2
        generalize ((w3.setCell ⟨w.heap.size, 0, none⟩ (.int .i64 b.first)).setCell ⟨w.heap.size, 1, none⟩ (.slice A1 n1 c1)).setCell ⟨w.heap.size, 2, none⟩ (.int .i64 b.rate) = W9 at hz9 hp9 hr9 hb9 ⊢
        have q0 : W9.cell? ⟨w.heap.size, 0, none⟩ = some (.int .i64 b.first) := hz9.cell 0
        have q1 : W9.cell? ⟨w.heap.size, 1, none⟩ = some (.slice A1 n1 c1) := hz9.cell 1
        have q2 : W9.cell? ⟨w.heap.size, 2, none⟩ = some (.int .i64 b.rate) := hz9.cell 2
        have hwB : w.heap.size ≤ w1.heap.size := by have h1 := HQ3.out.o1; have h2 := HQ3.out.o2; omega
        go_wp2_with fail
        refine bodyPost_ret (v := .tuple #[.agg #[.int .i64 b.first, .slice A1 n1 c1, .int .i64 b.rate], .slice A2 k c2, .int .i64 (T + x5)]) (by simp [results, Tryz.results31, go_sem, q0, q1, q2]) rfl ?_
        exact ⟨b, A1, n1, c1, A2, k, c2, xs, (T + x5), rfl, hp9.more hwB, (by unfold In64; omega), hb9⟩
    · have HN := Lib.hid hT
      obtain ⟨b0, b1, b2⟩ := HQ.out.bas.c3
      go_region_law (go_simp; go_at_call 105; refine (spec_l21DrawFund_any K hK g _ _ (by first | exact HN.out | exact HN.out.drew)).mono ?_; rintro e w3 ⟨d, rfl, hd, hTv⟩; have HQ3 := Lib.hid (HQ.out.nxx hTv); have b0 : w3.cell? ⟨Gb, 0, none⟩ = some (.int .i64 b.first) := HQ3.out.bas.cell 0; have b1 : w3.cell? ⟨Gb, 1, none⟩ = some (.slice A1 n1 c1) := HQ3.out.bas.cell 1; have b2 : w3.cell? ⟨Gb, 2, none⟩ = some (.int .i64 b.rate) := HQ3.out.bas.cell 2; have zc0 : w3.cell? ⟨w.heap.size, 0, none⟩ = some (.int .i64 0) := HQ3.out.z.cell 0; have zf0 : w3.frozen? ⟨w.heap.size, 0, none⟩ = false := HQ3.out.z.frozen 0; have zc1 : w3.cell? ⟨w.heap.size, 1, none⟩ = some (.slice none 0 0) := HQ3.out.z.cell 1; have zf1 : w3.frozen? ⟨w.heap.size, 1, none⟩ = false := HQ3.out.z.frozen 1; have zc2 : w3.cell? ⟨w.heap.size, 2, none⟩ = some (.int .i64 0) := HQ3.out.z.cell 2; have zf2 : w3.frozen? ⟨w.heap.size, 2, none⟩ = false := HQ3.out.z.frozen 2)
      all_goals
        obtain ⟨hz9, hp9, hr9, hb9⟩ := HQ3.out.fin
        clear zc0 zf0 zc1 zf1 zc2 zf2
        generalize ((w3.setCell ⟨w.heap.size, 0, none⟩ (.int .i64 b.first)).setCell ⟨w.heap.size, 1, none⟩ (.slice A1 n1 c1)).setCell ⟨w.heap.size, 2, none⟩ (.int .i64 b.rate) = W9 at hz9 hp9 hr9 hb9 ⊢
        have q0 : W9.cell? ⟨w.heap.size, 0, none⟩ = some (.int .i64 b.first) := hz9.cell 0
        have q1 : W9.cell? ⟨w.heap.size, 1, none⟩ = some (.slice A1 n1 c1) := hz9.cell 1
        have q2 : W9.cell? ⟨w.heap.size, 2, none⟩ = some (.int .i64 b.rate) := hz9.cell 2
        have hwB : w.heap.size ≤ w1.heap.size := by have h1 := HQ3.out.o1; have h2 := HQ3.out.o2; omega
        go_wp2_with fail
        refine bodyPost_ret (v := .tuple #[.agg #[.int .i64 b.first, .slice A1 n1 c1, .int .i64 b.rate], .slice A2 k c2, .int .i64 d]) (by simp [results, Tryz.results31, go_sem, q0, q1, q2]) rfl ?_
        exact ⟨b, A1, n1, c1, A2, k, c2, xs, d, rfl, hp9.more hwB, (by unfold In64; omega), hb9⟩
set_option maxRecDepth 100000 in
set_option maxHeartbeats 8000000 in
theorem spec_DrawWorstScenario_any (K : Code) (hK : K.Ok) (w : World) (hX : Rd w w.heap.size K.A 1 (byteRows K.bs)) :
    Calls Tryz.prog 28 #[.slice K.A K.n K.c] w fun e w' => ∃ (b : Bas) (A : Option Addr) (n c : Nat) (A2 : Option Addr) (k c2 : Nat) (xs : List Holding) (A3 : Option Addr) (m c3 : Nat) (ss : List Scenario), e = .returned (.tuple #[.agg #[.int .i64 b.first, .slice A n c, .int .i64 b.rate], .slice A2 k c2, .slice A3 m c3]) ∧ PB w.heap.size w' b A n c A2 k c2 xs ∧ Res w.heap.size w' 31 2 A3 m c3 (scenarioRows ss) ∧ m ≤ 100 ∧ (∀ s ∈ ss, s.fits) ∧ Below w.heap.size w w' := by
  have hb0 : Below w.heap.size w (w.alloc (.cells #[.int .i64 0, .slice none 0 0, .int .i64 0] 28)) := (Below.refl _ w).alloc (Nat.le_refl _) _
  have HZ0 := Lib.hid (Blk.new w 28 #[.int .i64 0, .slice none 0 0, .int .i64 0])
  have hX := hX.past hb0
  have HBW := Lib.hid hb0; clear hb0
  have H2 := Lib.hid (show w.heap.size + 1 ≤ (w.alloc (.cells #[.int .i64 0, .slice none 0 0, .int .i64 0] 28)).heap.size by simp)
  obtain ⟨i0, hi0, hz0, hz1, hz2⟩ := info_parts Scenario.info
  have HI := Lib.hid (And.intro hi0 (And.intro hz0 (And.intro hz1 hz2))); clear hi0 hz0 hz1 hz2
  have hmk20 : ∀ W : World, (Instr.makeSlice 51 (.int .i64 20) (.int .i64 20)).run Tryz.prog W = .ok (.slice (some ⟨W.heap.size, 0, none⟩) 20 20) (W.alloc (.cells (zeroScen 20) 31)) := fun W => by
    obtain ⟨hi0, hz0, hz1, hz2⟩ := HI.out
    have h := run_make_rowN (P := Tryz.prog) 51 31 i0 _ Tryz.underlying51 hi0 hz0 .i64 .i64 20 20 (Nat.le_refl _) (by rw [hz2]; omega) (by omega) W
    rw [hz1] at h
    exact h
  have hmk21 : ∀ W : World, (Instr.makeSlice 51 (.int .i64 21) (.int .i64 21)).run Tryz.prog W = .ok (.slice (some ⟨W.heap.size, 0, none⟩) 21 21) (W.alloc (.cells (zeroScen 21) 31)) := fun W => by
    obtain ⟨hi0, hz0, hz1, hz2⟩ := HI.out
    have h := run_make_rowN (P := Tryz.prog) 51 31 i0 _ Tryz.underlying51 hi0 hz0 .i64 .i64 21 21 (Nat.le_refl _) (by rw [hz2]; omega) (by omega) W
    rw [hz1] at h
    exact h
  go_enter Tryz.func28, Tryz.ntmps28
  go_wp2_with fail
  generalize w.alloc (.cells #[.int .i64 0, .slice none 0 0, .int .i64 0] 28) = Wa at HZ0 HBW H2 hX ⊢
  refine (spec_l01From_any K hK _ hX).mono ?_
  rintro e w1 ⟨g, rfl, hg, hb, hS⟩
  clear hX
  have hT := Nx.refl hS
  go_upto_region 3 with (go_at_call 73; refine (spec_l17Draw_pb K hK g _ _ hT).mono ?_; rintro e w2 ⟨b, A1, n1, c1, A2, k, c2, xs, rfl, hP, hT⟩)
  have HQ := Lib.hid (show D17 K g w1.heap.size w ((w2.alloc (.cells #[.int .i64 b.first, .slice A1 n1 c1, .int .i64 b.rate] 28)).alloc (.cells #[] 31)) w2.heap.size b A1 n1 c1 A2 k c2 xs 31 2 (some ⟨w2.heap.size + 1, 0, none⟩) 0 0 [] from by
    have hsz := H2.out
    have hg1 : g < w1.heap.size := hS.lt
    have h12 := hT.size
    have hn0 : w.heap.size ≠ g := by omega
    have hb1 := (Below.refl w2.heap.size w2).alloc (Nat.le_refl _) (.cells #[.int .i64 b.first, .slice A1 n1 c1, .int .i64 b.rate] 28)
    have hb2 := hb1.alloc (show w2.heap.size ≤ (w2.alloc (.cells #[.int .i64 b.first, .slice A1 n1 c1, .int .i64 b.rate] 28)).heap.size by simp) (.cells #[] 31)
    refine ⟨((HZ0.out.below' hb).nx hT hn0).below' hb2, (Blk.new w2 _ _).alloc _, hP.past hb2, Res.zero_at (by simp; omega) (by simp), fun x hx => ?_, fun x hx => ?_, hT.src.past hb2, (HBW.out.trans ((hb.mono (by omega)).trans (hT.below.mono (by omega)))).trans (hb2.mono (by have := HBW.out.size; have := hb.size; omega)), by omega, hg1, h12⟩
    · have hx2 : w2.heap.size + 1 = x := by injection hx
      omega
    · rcases hx with hx | hx
      · exact (hP.liv.lt hx).2
      · exact (hP.res.lt hx).2)
  have hkl := hP.len
  have HXL := Lib.hid hP.xlen
  have HFI := Lib.hid hP.fits
  clear hP hT hb HZ0 HBW
  go_wp2_with fail
  generalize (w2.alloc (.cells #[.int .i64 b.first, .slice A1 n1 c1, .int .i64 b.rate] 28)).alloc (.cells #[] 31) = W0 at HQ ⊢
  generalize w2.heap.size + 1 = Gl at HQ ⊢
  generalize w2.heap.size = Gb at HQ ⊢
  have hT := Nx.refl HQ.out.src
  go_wp2_with (go_at_call 102; refine (spec_l01Next_any K hK g _ _ _ (by first | exact hT | exact hT.alloc _ | exact (hT.alloc _).alloc _ | exact hT.drew)).mono ?_; rintro e w3 ⟨m0, rfl, ⟨hm00, hm01⟩, hTy⟩; have HQ := Lib.hid (HQ.out.nxx hTy); clear hTy; have hT := Nx.refl HQ.out.src)
  obtain ⟨m0', rfl⟩ := Int.eq_ofNat_of_zero_le hm00
  go_loopg [8, 9] m0' (fun nn o i wr => ∃ (A3 : Option Addr) (m c3 : Nat) (ys : List Scenario), i = .int .i64 (nn : Int) ∧ o = .slice A3 m c3 ∧ m + nn ≤ 10 ∧ Hid (D17 K g w1.heap.size w wr Gb b A1 n1 c1 A2 k c2 xs 31 2 A3 m c3 (scenarioRows ys)) ∧ Hid (∀ s ∈ ys, s.fits))
  case atStart => exact ⟨_, 0, 0, [], rfl, rfl, by omega, HQ, Lib.hid (by simp)⟩
  case round =>
    clear HQ hT hm00 hm01
    obtain ⟨A3, m, c3, ys, rfl, rfl, hm, HQ, HY⟩ := hrel
    have hT := Nx.refl HQ.out.src
    cases gk with
    | zero =>
      go_upto_if 50 with (go_at_call 102; refine (spec_l01Next_any K hK g _ _ _ (by first | exact hT | exact hT.alloc _ | exact (hT.alloc _).alloc _ | exact hT.drew)).mono ?_; rintro e w3 ⟨y, rfl, ⟨hy0, hy1⟩, hTy⟩; have HQ := Lib.hid (HQ.out.nxx hTy); clear hTy; have hT := Nx.refl HQ.out.src)
      go_cut [8] (fun l wx => ∃ (A3 : Option Addr) (m3 c3 : Nat) (ys : List Scenario), l = .slice A3 m3 c3 ∧ m3 ≤ 100 ∧ Hid (D17 K g w1.heap.size w wx Gb b A1 n1 c1 A2 k c2 xs 31 2 A3 m3 c3 (scenarioRows ys)) ∧ Hid (∀ s ∈ ys, s.fits))
      case first =>
        go_wp2_with ((go_at_call 102; refine (spec_l01Next_any K hK g _ _ _ (by first | exact hT | exact hT.alloc _ | exact (hT.alloc _).alloc _ | exact hT.drew)).mono ?_; rintro e w3 ⟨z, rfl, ⟨hz0, hz1⟩, hTy⟩; have HQ := Lib.hid (HQ.out.nxx hTy); clear hTy; have hT := Nx.refl HQ.out.src); rcases (show z = 0 ∨ z = 1 by omega) with rfl | rfl)
        · have HQ6 := Lib.hid (HQ.out.app (Res.madeS _ _ 20 HQ.out.hB (.inl rfl)) ((Below.refl _ _).alloc HQ.out.hB _) (fun k hk _ => Below.heap_alloc _ _ k hk) (fun x hx => blk_new hx))
          go_meet
          case rel => exact ⟨_, 20, 20, _, rfl, by omega, HQ6, Lib.hid scen_zeros⟩
        · have HQ6 := Lib.hid (HQ.out.app (Res.madeS _ _ 21 HQ.out.hB (.inr rfl)) ((Below.refl _ _).alloc HQ.out.hB _) (fun k hk _ => Below.heap_alloc _ _ k hk) (fun x hx => blk_new hx))
          go_meet
          case rel => exact ⟨_, 21, 21, _, rfl, by omega, HQ6, Lib.hid scen_zeros⟩
        · go_meet
          case rel => exact ⟨A3, m, c3, ys, rfl, by omega, HQ, HY⟩
      case rest =>
        clear HQ hT HY
        obtain ⟨A3, m3, c3, ys, rfl, hm3, HQ, HY⟩ := hcut
        have b0 : wc.cell? ⟨Gb, 0, none⟩ = some (.int .i64 b.first) := HQ.out.bas.cell 0
        have b1 : wc.cell? ⟨Gb, 1, none⟩ = some (.slice A1 n1 c1) := HQ.out.bas.cell 1
        have b2 : wc.cell? ⟨Gb, 2, none⟩ = some (.int .i64 b.rate) := HQ.out.bas.cell 2
        have zc0 : wc.cell? ⟨w.heap.size, 0, none⟩ = some (.int .i64 0) := HQ.out.z.cell 0
        have zf0 : wc.frozen? ⟨w.heap.size, 0, none⟩ = false := HQ.out.z.frozen 0
        have zc1 : wc.cell? ⟨w.heap.size, 1, none⟩ = some (.slice none 0 0) := HQ.out.z.cell 1
        have zf1 : wc.frozen? ⟨w.heap.size, 1, none⟩ = false := HQ.out.z.frozen 1
        have zc2 : wc.cell? ⟨w.heap.size, 2, none⟩ = some (.int .i64 0) := HQ.out.z.cell 2
        have zf2 : wc.frozen? ⟨w.heap.size, 2, none⟩ = false := HQ.out.z.frozen 2
        have hcB := Lib.hid (Blk.agg (cs := [.int .i64 b.first, .slice A1 n1 c1, .int .i64 b.rate]) HQ.out.bas 0 [.int .i64 b.first, .slice A1 n1 c1, .int .i64 b.rate] rfl)
        go_wp2_with (refine wpList_load_agg rfl 28 _ rfl ⟨Gb, 0, none⟩ rfl [.int .i64 b.first, .slice A1 n1 c1, .int .i64 b.rate] hcB.out _ Tryz.underlying28 rfl Bas.size ?_)
        obtain ⟨hz9, hp9, hr9, hb9⟩ := HQ.out.fin
        clear zc0 zf0 zc1 zf1 zc2 zf2 b0 b1 b2
        generalize ((wc.setCell ⟨w.heap.size, 0, none⟩ (.int .i64 b.first)).setCell ⟨w.heap.size, 1, none⟩ (.slice A1 n1 c1)).setCell ⟨w.heap.size, 2, none⟩ (.int .i64 b.rate) = W9 at hz9 hp9 hr9 hb9 ⊢
        have q0 : W9.cell? ⟨w.heap.size, 0, none⟩ = some (.int .i64 b.first) := hz9.cell 0
        have q1 : W9.cell? ⟨w.heap.size, 1, none⟩ = some (.slice A1 n1 c1) := hz9.cell 1
        have q2 : W9.cell? ⟨w.heap.size, 2, none⟩ = some (.int .i64 b.rate) := hz9.cell 2
        refine bodyPost_ret (v := .tuple #[.agg #[.int .i64 b.first, .slice A1 n1 c1, .int .i64 b.rate], .slice A2 k c2, .slice A3 m3 c3]) (by simp [results, Tryz.results28, go_sem, q0, q1, q2]) rfl ?_
        have hwB : w.heap.size ≤ w1.heap.size := by have h1 := HQ.out.o1; have h2 := HQ.out.o2; omega
        exact ⟨b, A1, n1, c1, A2, k, c2, xs, A3, m3, c3, ys, rfl, hp9.more hwB, hr9.more hwB, hm3, HY.out, hb9⟩
    | succ gn =>
      have hmi : (0 : Int) < ((gn + 1 : Nat) : Int) := by omega
      go_upto_region 8 with (go_at_call 74; refine (spec_l21Draw_any K hK g _ _ hT).mono ?_; rintro e w3 ⟨r, d, rfl, ⟨⟨r0, r1⟩, ⟨d0, d1⟩⟩, hTy⟩; have HQ := Lib.hid (HQ.out.nxx hTy); clear hTy)
      have hls := HQ.out.bas.lt
      have HS := Lib.hid (Blk.new w3 31 #[.int .i64 r, .int .i64 d])
      have HAL := Lib.hid (show ∀ x, blkOf A3 = some x → x ≠ w3.heap.size from fun x hx => by have := (HQ.out.res.blk_lt hx).2; omega)
      have hgs : w3.heap.size ≠ g := by have h1 := HQ.out.o2; have h2 := HQ.out.o3; omega
      have HQ := Lib.hid (HQ.out.past ((Below.refl w3.heap.size w3).alloc (Nat.le_refl _) (.cells #[.int .i64 r, .int .i64 d] 31)))
      generalize w3.alloc (.cells #[.int .i64 r, .int .i64 d] 31) = W1 at HQ HS ⊢
      generalize w3.heap.size = Gs at HS HAL hls hgs ⊢
      have hT := Nx.refl HQ.out.src
      obtain ⟨br0, br1⟩ := HQ.out.pb.sm.rate
      go_cut [42] (fun t wx => ∃ z : Bool, t = .bool z ∧ Hid (D17 K g w1.heap.size w wx Gb b A1 n1 c1 A2 k c2 xs 31 2 A3 m c3 (scenarioRows ys)) ∧ Hid (Blk wx Gs 31 #[.int .i64 r, .int .i64 d]))
      case first =>
        have hcB := Lib.hid (Blk.agg (cs := [.int .i64 b.first, .slice A1 n1 c1, .int .i64 b.rate]) HQ.out.bas 0 [.int .i64 b.first, .slice A1 n1 c1, .int .i64 b.rate] rfl)
        cases hz : basisB b
        all_goals
          go_wp2_with (first | (refine wpList_load_agg rfl 28 _ rfl ⟨Gb, 0, none⟩ rfl [.int .i64 b.first, .slice A1 n1 c1, .int .i64 b.rate] hcB.out _ Tryz.underlying28 rfl Bas.size ?_) | (go_at_call 89; refine (spec_IsBasis_any b A1 n1 c1 _ HQ.out.pb.basT).mono ?_; rw [hz]; rintro e w2 ⟨rfl, hb2⟩; have HQ := Lib.hid (HQ.out.past hb2); have HS := Lib.hid (HS.out.below' hb2); have hT := Nx.refl HQ.out.src; obtain ⟨b0, b1, b2⟩ := HQ.out.bas.c3; have s0 : w2.cell? ⟨Gs, 0, none⟩ = some (.int .i64 r) := HS.out.cell 0) | (go_at_call 91; refine (spec_l04Rate_any _ _).mono ?_; rintro e w' ⟨rfl, rfl⟩) | (go_at_call 102; refine (spec_l01Next_any K hK g _ _ _ hT).mono ?_; rintro e w3 ⟨y, rfl, ⟨hy0, hy1⟩, hTy⟩; have HS := Lib.hid (HS.out.nx hTy hgs); have HQ := Lib.hid (HQ.out.nxx hTy)))
        all_goals
          go_meet
          case rel => exact ⟨_, rfl, HQ, HS⟩
      case rest =>
        clear HQ HS hT
        obtain ⟨z, rfl, HQ, HS⟩ := hcut
        go_upto_if 42 with fail
        go_cut [] (fun wx => ∃ r : Int, (-1000 ≤ r ∧ r ≤ 1000) ∧ Hid (D17 K g w1.heap.size w wx Gb b A1 n1 c1 A2 k c2 xs 31 2 A3 m c3 (scenarioRows ys)) ∧ Hid (Blk wx Gs 31 #[.int .i64 r, .int .i64 d]))
        case first =>
          cases z
          · go_wp2_with fail
            go_meet
            case rel => exact ⟨r, ⟨r0, r1⟩, HQ, HS⟩
          · have f0 := HS.out.frozen 0
            have s0 := HS.out.cell 0
            go_wp2_with fail
            go_meet
            case rel => exact ⟨0, by omega, Lib.hid (HQ.out.far hls HAL.out 0 (.int .i64 0)), Lib.hid (by simpa using HS.out.set_ 0 (.int .i64 0))⟩
        case rest =>
          clear HQ HS r0 r1
          obtain ⟨r, ⟨r0, r1⟩, HQ, HS⟩ := hcut
          have hcS := Lib.hid (Blk.agg (cs := [.int .i64 r, .int .i64 d]) HS.out 0 [.int .i64 r, .int .i64 d] rfl)
          go_wp2_with (first | (refine wpList_load_agg rfl 31 _ rfl ⟨Gs, 0, none⟩ rfl [.int .i64 r, .int .i64 d] hcS.out _ Tryz.underlying31 rfl Scenario.size ?_) | (at_builtin; refine wpList_append_row_at _ rfl _ _ _ rfl w1.heap.size 31 i0 _ 2 16 Tryz.underlying51 HI.out.1 HI.out.2.1 HI.out.2.2.1 HI.out.2.2.2 rfl (by decide) (by decide) _ _ _ _ rfl HQ.out.res [.int .i64 _, .int .i64 _] _ rfl rfl (by simp [Value.oneCell']) (by omega) HQ.out.hB ?_; intro A5 c5 w5 hR5 hb5 hk5 ho5))
          have HQ6 := Lib.hid (HQ.out.app (scen_snoc ys r d hR5) hb5 hk5 (or_blk ho5 (Nat.le_succ _)))
          go_roundg gn
          case measure => omega
          case rel => exact ⟨A5, m + 1, c5, ys ++ [⟨r, d⟩], by go_num, rfl, by omega, HQ6, Lib.hid (scen_all HY.out ⟨⟨r0, r1⟩, d0, d1⟩)⟩
end Go.Proofs.YtbjdbpdgacfcpaaGreat
end

/- How a law that draws opens its code, and from its walk to its row. No condition. -/
section
namespace Go.Proofs.YtbjdbpdgacfcpaaGreat
open Go.ChangeShapes Go.WideShapes Go.ChangeAt Go.RowKit Go.Deep

section
variable {H : Type} {enc : TypeId × Value → H} {P : Program} {w : World} {base : Nat} {spare : Nat → Bool} {held : Bool}
theorem open_code {t e : TypeId} {fuel n cap : Nat} {A : Option Addr} {x : DataW H × List MemPlace} (ht : P.underlying t = some (.slice e)) (he : P.underlying e = some (.int .u8)) (hC : P.cellsOf e = 1)
    (h : DataW.trod enc P w base spare held fuel t [.slice A n cap] = some x) :
    ∃ bs : List Int, bs.length = n ∧ (∀ z ∈ bs, 0 ≤ z ∧ z ≤ 255) ∧ Rd w w.heap.size A 1 (byteRows bs) ∧ n ≤ 9223372036854775807 := by
  rcases open_slice ht h with ⟨h0, _⟩ | ⟨a, len, cap', m', n', D, Pl, hcs, hb, hl, hmx, hmm, _, hel⟩
  · simp only [List.cons.injEq, Value.slice.injEq, and_true] at h0
    obtain ⟨rfl, rfl, _⟩ := h0
    exact ⟨[], rfl, by simp, .inl rfl, by omega⟩
  · simp only [List.cons.injEq, Value.slice.injEq, and_true] at hcs
    obtain ⟨rfl, rfl, rfl⟩ := hcs
    have hle : n ≤ m' := by rw [hmm]; split <;> omega
    have each : ∀ i : Nat, i < n → ∃ z : Int, (0 ≤ z ∧ z ≤ 255) ∧ w.cell? (a.add i) = some (.int .u8 z) := by
      intro i hin
      obtain ⟨cs', hc, htr⟩ := hel i (by omega)
      obtain ⟨z, rfl, _, wn⟩ := DataW.trod_int he htr
      obtain ⟨_, hcl, hat⟩ := World.cells?_some hc
      have := hat 0 (by rw [hC]; omega)
      rw [hC, add_of_add] at this
      refine ⟨z, ?_, by simpa using this⟩
      simpa [Lit.wf, IntKind.min, IntKind.max, IntKind.signed, IntKind.bits] using wn
    obtain ⟨bs, hbl, hbs⟩ := list_of n each
    have hmx' : n ≤ 9223372036854775807 := by unfold maxLen at *; omega
    refine ⟨bs, hbl, fun z hz => ?_, ?_, hmx'⟩
    · obtain ⟨i, hi', rfl⟩ := List.getElem_of_mem hz
      exact (hbs i _ (List.getElem?_eq_getElem hi')).1
    · rcases Nat.eq_zero_or_pos n with h0 | h0
      · have : bs = [] := List.eq_nil_of_length_eq_zero (by omega)
        subst this; exact .inl rfl
      · have hblk : a.block < w.heap.size := by
          obtain ⟨z, hz⟩ := get_of_lt (xs := bs) (k := 0) (by omega)
          have := block_lt_of_cell (hbs 0 z hz).2
          rwa [block_of_add] at this
        refine .inr ⟨a, rfl, hblk, fun k r hk => ?_⟩
        simp only [byteRows, List.getElem?_map, Option.map_eq_some_iff] at hk
        obtain ⟨z, hk, rfl⟩ := hk
        refine ⟨rfl, fun j v hv => ?_⟩
        have hj : j = 0 := by have := (List.getElem?_eq_some_iff.1 hv).1; simp at this; exact this
        subst hj
        simp only [List.getElem?_cons_zero, Option.some.injEq] at hv
        subst hv
        simpa using (hbs k z hk).2
end
theorem laws_big_any (A : Option Addr) (n cap : Nat) (w : World) (_hn : n ≤ 9223372036854775807) : Calls Tryz.prog 8 #[.slice A n cap] w fun e w' => e = .returned (.bool (decide (4096 < n))) ∧ w = w' := by
  by_cases h : 4096 < n
  · go_enter Tryz.func8, Tryz.ntmps8
    go_wp2
    go_ret
    exact ⟨by simp; omega, rfl⟩
  · go_enter Tryz.func8, Tryz.ntmps8
    go_wp2
    go_ret
    exact ⟨by simp; omega, rfl⟩
end Go.Proofs.YtbjdbpdgacfcpaaGreat
end

/- The laws' own helpers: equal lists are like each other; the sum of a list. -/
section
namespace Go.Proofs.YtbjdbpdgacfcpaaGreat
open Go.RowKit Go.BigFrame

theorem likeInts_any (A : Option Addr) (n cap : Nat) (A2 : Option Addr) (cap2 : Nat) (xs : List Int) (w : World) (hl : xs.length = n) (hn : n ≤ 1048576) (hX : Rd w w.heap.size A 1 (intRows xs)) (hX2 : Rd w w.heap.size A2 1 (intRows xs)) :
    Calls Tryz.prog 46 #[.slice A n cap, .slice A2 n cap2] w fun e w' => e = .returned (.bool true) ∧ Below w.heap.size w w' := by
  have HX := Lib.hid hX; clear hX
  have HX2 := Lib.hid hX2; clear hX2
  have HL := Lib.hid hl; clear hl
  go_enter Tryz.func46, Tryz.ntmps46
  go_wp2
  go_loopw [5] (fun i wr => ∃ k : Nat, k ≤ n ∧ i = .int .i64 k ∧ Below w.heap.size w wr) (fun i _ => n - (intOf i).toNat)
  case atStart => exact ⟨0, by omega, rfl, Below.refl _ _⟩
  case round =>
    obtain ⟨k, hk, rfl, hb⟩ := hrel
    by_cases hlt : k < n
    · obtain ⟨x, hx⟩ := get_of_lt (xs := xs) (k := k) (by rw [HL.out]; exact hlt)
      obtain ⟨ad, rfl, had, hc⟩ := (HX.out.past hb).int_at hx
      obtain ⟨ad2, rfl, had2, hc2⟩ := (HX2.out.past hb).int_at hx
      clear hx
      have d0 := fun y : Past wr => Past.cell hc y
      have d1 := fun y : Past wr => Past.cell hc2 y
      have hki : (k : Int) < (n : Int) := by omega
      clear hc hc2
      go_wp2
      refine wp_region_past (by kernel_rfl) (by kernel_rfl) ?_
      repeat (go_big_quiet_step (fail))
      refine wpQuiet_nil ?_
      rintro _ ⟨y, rfl⟩
      go_wp2
      go_roundw
      case rel => exact ⟨k + 1, by omega, by go_num, hb.trans (y.2.mono hb.size)⟩
      case measure => simp [intOf]; omega
    · have hki : ¬ (k : Int) < (n : Int) := by omega
      go_wp2
      go_ret
      exact ⟨rfl, hb⟩

def SumOk (xs : List Int) : Prop := ∀ k : Nat, -4000000000000000000 ≤ (xs.take k).sum ∧ (xs.take k).sum ≤ 4000000000000000000
theorem takeSum_snoc {xs : List Int} {k : Nat} {x : Int} (hx : xs[k]? = some x) : (xs.take (k + 1)).sum = (xs.take k).sum + x := by
  rw [take_succ_snoc hx]; simp
theorem sumOk_of {lo hi : Int} (h0 : lo ≤ 0) (h1 : 0 ≤ hi) {n : Nat} : ∀ (xs : List Int), xs.length ≤ n → (∀ x ∈ xs, lo ≤ x ∧ x ≤ hi) → lo * (n : Int) ≤ xs.sum ∧ xs.sum ≤ hi * (n : Int)
  | [], _, _ => by
    simp only [List.sum_nil]
    exact ⟨by have := Int.mul_nonneg (show 0 ≤ -lo by omega) (show (0 : Int) ≤ n by omega); rw [Int.neg_mul] at this; omega, Int.mul_nonneg h1 (by omega)⟩
  | x :: r, hl, h => by
    cases n with
    | zero => simp at hl
    | succ n =>
      obtain ⟨h2, h3⟩ := sumOk_of h0 h1 (n := n) r (by simpa using hl) fun y hy => h y (by simp [hy])
      have h4 := h x (by simp)
      simp only [List.sum_cons]
      have e1 : lo * ((n + 1 : Nat) : Int) = lo * (n : Int) + lo := by rw [Int.natCast_add, Int.mul_add]; simp
      have e2 : hi * ((n + 1 : Nat) : Int) = hi * (n : Int) + hi := by rw [Int.natCast_add, Int.mul_add]; simp
      omega
theorem SumOk.of {lo hi : Int} {xs : List Int} {n : Nat} (h0 : lo ≤ 0) (h1 : 0 ≤ hi) (hl : xs.length ≤ n) (h : ∀ x ∈ xs, lo ≤ x ∧ x ≤ hi) (hb : -4000000000000000000 ≤ lo * (n : Int) ∧ hi * (n : Int) ≤ 4000000000000000000) : SumOk xs := fun k => by
  have := sumOk_of h0 h1 (n := n) (xs.take k) (by simp; omega) fun x hx => h x (List.mem_of_mem_take hx)
  omega

theorem laws_sum_any (A : Option Addr) (n cap : Nat) (xs : List Int) (w : World) (hl : xs.length = n) (hn : n ≤ 1048576) (hX : Rd w w.heap.size A 1 (intRows xs)) (hs : SumOk xs) :
    Calls Tryz.prog 47 #[.slice A n cap] w fun e w' => e = .returned (.int .i64 xs.sum) ∧ w = w' := by
  have HX := Lib.hid hX; clear hX
  have HL := Lib.hid hl; clear hl
  have HS := Lib.hid hs; clear hs
  go_enter Tryz.func47, Tryz.ntmps47
  go_wp2
  go_loop [3, 4] (fun s i => ∃ k : Nat, k ≤ n ∧ i = .int .i64 k ∧ s = .int .i64 (xs.take k).sum) (fun _ i => n - (intOf i).toNat)
  case atStart => exact ⟨0, by omega, rfl, rfl⟩
  case round =>
    obtain ⟨k, hk, rfl, rfl⟩ := hrel
    by_cases hlt : k < n
    · obtain ⟨x, hx⟩ := get_of_lt (xs := xs) (k := k) (by rw [HL.out]; exact hlt)
      obtain ⟨ad, rfl, had, hc⟩ := HX.out.int_at hx
      have HE := Lib.hid (takeSum_snoc hx)
      obtain ⟨s0, s1⟩ := HS.out (k + 1)
      rw [HE.out] at s0 s1
      obtain ⟨t0, t1⟩ := HS.out k
      generalize (xs.take k).sum = S at HE s0 s1 t0 t1 ⊢
      have Hx := Lib.hid hx; clear hx
      have hki : (k : Int) < (n : Int) := by omega
      go_wp2
      go_round
      case rel => exact ⟨k + 1, by omega, by go_num, by rw [HE.out]⟩
      case measure => simp [intOf]; omega
    · have hki : ¬ (k : Int) < (n : Int) := by omega
      have hkn : k = n := by omega
      subst hkn
      go_wp2
      go_ret
      exact ⟨by rw [List.take_of_length_le (by rw [HL.out]; exact Nat.le_refl _)]; rfl, rfl⟩
end Go.Proofs.YtbjdbpdgacfcpaaGreat
end

/- Slices that are read in later worlds, many at once. -/
section
namespace Go.Proofs.YtbjdbpdgacfcpaaGreat
open Go.RowKit Go.BigFrame
def Held (w : World) (L : List (Option Addr × Nat × List (List Value))) : Prop := ∀ x ∈ L, Rd w w.heap.size x.1 x.2.1 x.2.2
theorem Held.nil (w : World) : Held w [] := by intro x hx; cases hx
section
variable {w w' : World} {L : List (Option Addr × Nat × List (List Value))} {A : Option Addr} {sz : Nat} {rows : List (List Value)}
theorem Held.past (h : Held w L) (hb : Below w.heap.size w w') : Held w' L := fun x hx => (h x hx).past hb
theorem Held.snoc (h : Held w L) (hr : Rd w w.heap.size A sz rows) : Held w (L ++ [(A, sz, rows)]) := by
  intro x hx
  rcases List.mem_append.1 hx with hx | hx
  · exact h x hx
  · simp only [List.mem_singleton] at hx; rw [hx]; exact hr
theorem Held.cons (h : Held w L) (hr : Rd w w.heap.size A sz rows) : Held w ((A, sz, rows) :: L) := by
  intro x hx
  rcases List.mem_cons.1 hx with hx | hx
  · rw [hx]; exact hr
  · exact h x hx
theorem Held.get (h : Held w L) (k : Nat) (e : L[k]? = some (A, sz, rows)) : Rd w w.heap.size A sz rows := h _ (List.mem_of_getElem? e)
end
theorem Blk.rd {w : World} {g : Nat} {t : TypeId} {r : List Value} (h : Blk w g t r.toArray) : Rd w w.heap.size (some ⟨g, 0, none⟩) r.length [r] := by
  refine .inr ⟨_, rfl, h.lt, fun k r' hk => ?_⟩
  have h0 : k = 0 := by have := (List.getElem?_eq_some_iff.1 hk).1; simp at this; exact this
  subst h0
  simp only [List.getElem?_cons_zero, Option.some.injEq] at hk
  subst hk
  exact ⟨rfl, fun j v hv => by rw [add_none, h.cell]; simpa using hv⟩
/-- the cells of the one row of a box -/
theorem Rd.box {w : World} {B : Nat} {g sz : Nat} {r : List Value} (h : Rd w B (some ⟨g, 0, none⟩) sz [r]) : ∀ (j : Nat) (v : Value), r[j]? = some v → w.cell? ((⟨g, 0, none⟩ : Addr).add j) = some v := by
  intro j v hv
  rcases h with h | ⟨ad, e, _, hc⟩
  · cases h
  · injection e with e; subst e
    have := (hc 0 r rfl).2 j v hv
    simpa using this
theorem res_cap {w : World} {B t sz n cap : Nat} {A : Option Addr} {rows : List (List Value)} (h : Res B w t sz A n cap rows) : n ≤ cap := by
  rcases h.own.2 with ⟨h1, h2⟩ | ⟨g, c, cur, e, _, _, hnc, _⟩
  · simp only [Value.slice.injEq] at h1; omega
  · simp only [Value.slice.injEq] at e; omega
theorem Rd.boxT {w : World} {B g sz : Nat} {a b c : Value} (h : Rd w B (some ⟨g, 0, none⟩) sz [[a, b, c]]) : ∀ (j : Nat) (v : Value), [a, b][j]? = some v → w.cell? ((⟨g, 0, none⟩ : Addr).add j) = some v := fun j v hv => Rd.box h j v (by
  match j, hv with
  | 0, hv => simpa using hv
  | 1, hv => simpa using hv)
theorem below_all {w0 w1 w2 : World} (h : Below w0.heap.size w0 w1) (hb : Below w1.heap.size w1 w2) : Below w0.heap.size w0 w2 := h.trans (hb.mono h.size)
end Go.Proofs.YtbjdbpdgacfcpaaGreat
end
