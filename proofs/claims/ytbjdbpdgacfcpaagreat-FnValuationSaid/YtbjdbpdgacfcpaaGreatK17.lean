/- Parts of a proof, one after another: DrawP7, DrawT, DrawLaw, Likes, Held, LikesT, Port5, Port6, KindP. No condition. -/
import Derived.Test.YtbjdbpdgacfcpaaGreatK0
import Derived.Test.YtbjdbpdgacfcpaaGreatK1
import Derived.Test.YtbjdbpdgacfcpaaGreatK3
import Derived.Test.YtbjdbpdgacfcpaaGreatK13
import Derived.Test.YtbjdbpdgacfcpaaGreatK16
import Derived.Deep.RegionLaw
/- Draws of scenarios, amounts, funds; draws of the arguments of laws on portfolios. -/
section
namespace Go.Proofs.YtbjdbpdgacfcpaaGreat
open Go.RowKit Go.BigFrame

theorem Res.low {w : World} {B t sz n cap : Nat} {A : Option Addr} {rows : List (List Value)} (h : Res B w t sz A n cap rows) {Z : Nat} (hZ : Z < B) (i : Nat) (v : Value) : Res B (w.setCell ⟨Z, i, none⟩ v) t sz A n cap rows :=
  h.keep fun a ha => Below.heap_setCell _ _ _ _ (by have := (h.lt ha).1; show a ≠ Z; omega)
/-- a drawn basis, a drawn portfolio -/
structure PB (B : Nat) (w : World) (b : Bas) (A : Option Addr) (n c : Nat) (A2 : Option Addr) (k c2 : Nat) (xs : List Holding) : Prop where
  liv : Res B w 2 1 A n c (intRows b.lives)
  sm : BasSmall b n
  res : Res B w 90 7 A2 k c2 (holdingRows xs)
  len : k ≤ 100
  fits : ∀ x ∈ xs, x.fits
namespace PB
variable {K : Code} {g B : Nat} {w w' : World} {b : Bas} {A : Option Addr} {n c : Nat} {A2 : Option Addr} {k c2 : Nat} {xs : List Holding}
theorem nxx (h : PB B w b A n c A2 k c2 xs) (hN : Nx K g w w') (hB : g < B) : PB B w' b A n c A2 k c2 xs := { h with liv := h.liv.nx hN hB, res := h.res.nx hN hB }
theorem past (h : PB B w b A n c A2 k c2 xs) (hb : Below w.heap.size w w') : PB B w' b A n c A2 k c2 xs := { h with liv := h.liv.past hb, res := h.res.past hb }
theorem more {B' : Nat} (h : PB B w b A n c A2 k c2 xs) (hB : B' ≤ B) : PB B' w b A n c A2 k c2 xs := { h with liv := h.liv.more hB, res := h.res.more hB }
theorem low (h : PB B w b A n c A2 k c2 xs) {Z : Nat} (hZ : Z < B) (i : Nat) (v : Value) : PB B (w.setCell ⟨Z, i, none⟩ v) b A n c A2 k c2 xs := { h with liv := h.liv.low hZ i v, res := h.res.low hZ i v }
theorem xlen (h : PB B w b A n c A2 k c2 xs) : xs.length = k := by have := h.res.len; rwa [holdingRows_length] at this
theorem blen (h : PB B w b A n c A2 k c2 xs) : b.lives.length = n := by have := h.liv.len; rwa [intRows_length] at this
theorem basT (h : PB B w b A n c A2 k c2 xs) : BasT w A n c b := by
  have hl := h.blen
  refine BasT.of_res h.liv (by have := h.sm.len; omega) (fun x hx => ?_) ?_ ?_
  · have := h.sm.lives x hx; unfold In64; omega
  · have := h.sm.first; unfold In64; omega
  · have := h.sm.rate; unfold In64; omega
end PB
theorem spec_l17Draw_pb (K : Code) (hK : K.Ok) (g : Nat) (w0 : World) (w : World) (hT : Nx K g w0 w) :
    Calls Tryz.prog 73 #[.pointer (some ⟨g, 0, none⟩)] w fun e w' => ∃ (b : Bas) (A' : Option Addr) (n' c' : Nat) (A2 : Option Addr) (k c2 : Nat) (xs : List Holding), e = .returned (.tuple #[.agg #[.int .i64 b.first, .slice A' n' c', .int .i64 b.rate], .slice A2 k c2]) ∧ PB w0.heap.size w' b A' n' c' A2 k c2 xs ∧ Nx K g w0 w' := by
  refine (spec_l17Draw_any K hK g w0 w hT).mono ?_
  rintro e w3 ⟨b, A1, n1, c1, A2, k, c2, xs, rfl, h1, h2, h3, h4, h5, hT⟩
  exact ⟨b, A1, n1, c1, A2, k, c2, xs, rfl, ⟨h1, h2, h3, h4, h5⟩, hT⟩

set_option maxHeartbeats 2000000 in
theorem spec_l21DrawDeath_any (K : Code) (hK : K.Ok) (g : Nat) (w0 : World) (w : World) (hT : Nx K g w0 w) :
    Calls Tryz.prog 81 #[.pointer (some ⟨g, 0, none⟩)] w fun e w' => ∃ d : Int, e = .returned (.int .i64 d) ∧ (-501 ≤ d ∧ d ≤ 501) ∧ Nx K g w0 w' := by
  go_enter Tryz.func81, Tryz.ntmps81
  go_wp2_with (first | (go_at_call 102; refine (spec_l01Next_any K hK g _ _ _ (Nx.refl (Nx.src (by first | exact hT | exact hT.alloc _ | exact (hT.alloc _).alloc _ | exact hT.drew)))).mono ?_; rintro e w3 ⟨x, rfl, ⟨hx0, hx1⟩, hN⟩; have hT := Nx.trans (by first | exact hT | exact hT.alloc _ | exact (hT.alloc _).alloc _ | exact hT.drew) hN) | (go_at_call 80; refine (spec_l01Pick_new K hK g _ _ _ _ (by first | exact hT | exact hT.alloc _ | exact (hT.alloc _).alloc _ | exact hT.drew) (by rfl) (by decide) (by decide) (by rfl)).mono ?_; rintro e w3 ⟨x, rfl, hx, hT⟩; simp only [OneOf, Value.int.injEq, true_and, or_false] at hx))
  all_goals (go_ret; exact ⟨_, rfl, by omega, hT⟩)
set_option maxHeartbeats 2000000 in
theorem spec_l21DrawFund_any (K : Code) (hK : K.Ok) (g : Nat) (w0 : World) (w : World) (hT : Nx K g w0 w) :
    Calls Tryz.prog 105 #[.pointer (some ⟨g, 0, none⟩)] w fun e w' => ∃ d : Int, e = .returned (.int .i64 d) ∧ (-1 ≤ d ∧ d ≤ 1000000000001) ∧ Nx K g w0 w' := by
  go_enter Tryz.func105, Tryz.ntmps105
  go_wp2_with (first | (go_at_call 102; refine (spec_l01Next_any K hK g _ _ _ (Nx.refl (Nx.src (by first | exact hT | exact hT.alloc _ | exact (hT.alloc _).alloc _ | exact hT.drew)))).mono ?_; rintro e w3 ⟨x, rfl, ⟨hx0, hx1⟩, hN⟩; have hT := Nx.trans (by first | exact hT | exact hT.alloc _ | exact (hT.alloc _).alloc _ | exact hT.drew) hN) | (go_at_call 80; refine (spec_l01Pick_new K hK g _ _ _ _ (by first | exact hT | exact hT.alloc _ | exact (hT.alloc _).alloc _ | exact hT.drew) (by rfl) (by decide) (by decide) (by rfl)).mono ?_; rintro e w3 ⟨x, rfl, hx, hT⟩; simp only [OneOf, Value.int.injEq, true_and, or_false] at hx))
  all_goals (go_ret; exact ⟨_, rfl, by omega, hT⟩)
set_option maxHeartbeats 2000000 in
theorem spec_l19DrawAmount_any (K : Code) (hK : K.Ok) (g : Nat) (w0 : World) (w : World) (hT : Nx K g w0 w) :
    Calls Tryz.prog 130 #[.pointer (some ⟨g, 0, none⟩)] w fun e w' => ∃ d : Int, e = .returned (.int .i64 d) ∧ (-1 ≤ d ∧ d ≤ 1000000001) ∧ Nx K g w0 w' := by
  go_enter Tryz.func130, Tryz.ntmps130
  go_wp2_with (first | (go_at_call 102; refine (spec_l01Next_any K hK g _ _ _ (Nx.refl (Nx.src (by first | exact hT | exact hT.alloc _ | exact (hT.alloc _).alloc _ | exact hT.drew)))).mono ?_; rintro e w3 ⟨x, rfl, ⟨hx0, hx1⟩, hN⟩; have hT := Nx.trans (by first | exact hT | exact hT.alloc _ | exact (hT.alloc _).alloc _ | exact hT.drew) hN) | (go_at_call 80; refine (spec_l01Pick_new K hK g _ _ _ _ (by first | exact hT | exact hT.alloc _ | exact (hT.alloc _).alloc _ | exact hT.drew) (by rfl) (by decide) (by decide) (by rfl)).mono ?_; rintro e w3 ⟨x, rfl, hx, hT⟩; simp only [OneOf, Value.int.injEq, true_and, or_false] at hx))
  all_goals (go_ret; exact ⟨_, rfl, by omega, hT⟩)

/-- the boxes of l21Draw -/
structure S21 (K : Code) (g : Nat) (w W : World) (Gs : Nat) (r d : Int) : Prop where
  z : Blk W w.heap.size 31 #[.int .i64 0, .int .i64 0]
  s : Blk W Gs 31 #[.int .i64 r, .int .i64 d]
  nx : Nx K g w W
  gw : g < w.heap.size
  ws : w.heap.size < Gs
  hr : (-1000 ≤ r ∧ r ≤ 1000) ∧ (-1000 ≤ d ∧ d ≤ 1000)
theorem S21.nxx {K : Code} {g : Nat} {w W W' : World} {Gs : Nat} {r d : Int} (h : S21 K g w W Gs r d) (hN : Nx K g W W') : S21 K g w W' Gs r d := by
  have h1 := h.gw; have h2 := h.ws
  exact { h with z := h.z.nx hN (by omega), s := h.s.nx hN (by omega), nx := h.nx.trans hN }
theorem S21.src {K : Code} {g : Nat} {w W : World} {Gs : Nat} {r d : Int} (h : S21 K g w W Gs r d) : Src K g W := h.nx.src
theorem S21.put {K : Code} {g : Nat} {w W : World} {Gs : Nat} {r d : Int} (h : S21 K g w W Gs r d) (x : Int) (hx : -1000 ≤ x ∧ x ≤ 1000) : S21 K g w (W.setCell ⟨Gs, 0, none⟩ (.int .i64 x)) Gs x d := by
  have h1 := h.gw; have h2 := h.ws
  exact ⟨h.z.far (by show w.heap.size ≠ Gs; omega) _, by simpa using h.s.set_ 0 (.int .i64 x), h.nx.kept h1 (Nat.le_refl _) ((Below.refl _ _).setCell (p := ⟨Gs, 0, none⟩) (by show w.heap.size ≤ Gs; omega) _), h1, h2, hx, h.hr.2⟩
set_option maxHeartbeats 4000000 in
theorem spec_l21Draw_any (K : Code) (hK : K.Ok) (g : Nat) (w0 : World) (w : World) (hT : Nx K g w0 w) :
    Calls Tryz.prog 74 #[.pointer (some ⟨g, 0, none⟩)] w fun e w' => ∃ r d : Int, e = .returned (.agg #[.int .i64 r, .int .i64 d]) ∧ ((-1000 ≤ r ∧ r ≤ 1000) ∧ (-1000 ≤ d ∧ d ≤ 1000)) ∧ Nx K g w0 w' := by
  have HT0 := Lib.hid hT
  have hgw := hT.src.lt
  have hOw := (Nx.refl hT.src).alloc (.cells #[.int .i64 0, .int .i64 0] 31)
  have HZB := Lib.hid (Blk.new w 31 #[.int .i64 0, .int .i64 0])
  clear hT
  have hT := Nx.refl hOw.src
  go_enter Tryz.func74, Tryz.ntmps74
  go_wp2_with fail
  have HSZ := Lib.hid (show w.heap.size < (w.alloc (.cells #[.int .i64 0, .int .i64 0] 31)).heap.size by simp)
  generalize w.alloc (.cells #[.int .i64 0, .int .i64 0] 31) = Wa at hT hOw HZB HSZ ⊢
  go_upto_region 2 with (first | ((go_at_call 102; refine (spec_l01Next_any K hK g _ _ _ (Nx.refl (Nx.src (by first | exact hT | exact hT.alloc _ | exact (hT.alloc _).alloc _ | exact hT.drew)))).mono ?_; rintro e w3 ⟨x, rfl, ⟨hx0, hx1⟩, hN⟩; have hT := Nx.trans (by first | exact hT | exact hT.alloc _ | exact (hT.alloc _).alloc _ | exact hT.drew) hN); rename Int => q0; have hq0 : 0 ≤ q0 ∧ q0 ≤ 40 := by omega) | ((go_at_call 80; refine (spec_l01Pick_new K hK g _ _ _ _ (by first | exact hT | exact hT.alloc _ | exact (hT.alloc _).alloc _ | exact hT.drew) (by rfl) (by decide) (by decide) (by rfl)).mono ?_; rintro e w3 ⟨x, rfl, hx, hT⟩; simp only [OneOf, Value.int.injEq, true_and, or_false] at hx); first | (have hq9 := hq2; rename Int => q4) | (rename Int => q3)) | (go_at_call 81; refine (spec_l21DrawDeath_any K hK g _ _ (by first | exact hT | exact hT.alloc _ | exact (hT.alloc _).alloc _ | exact hT.drew) ).mono ?_; rintro e w3 ⟨q2, rfl, hq2, hT⟩))
  have HQ := Lib.hid (show S21 K g w (w3.alloc (.cells #[.int .i64 q3, .int .i64 q4] 31)) w3.heap.size q3 q4 from by
    have h1 := HSZ.out
    have h2 := hT.size
    exact ⟨(HZB.out.nx hT (by omega)).alloc _, Blk.new w3 _ _, (hOw.trans hT).alloc _, hgw, by omega, by omega, by omega⟩)
  clear HZB hOw hN hT hx0 hx1 hq0
  clear hx
  generalize w3.alloc (.cells #[.int .i64 q3, .int .i64 q4] 31) = W5 at HQ ⊢
  generalize w3.heap.size = Gs at HQ ⊢
  have hT := Nx.refl HQ.out.src
  go_upto_if 18 with (go_at_call 102; refine (spec_l01Next_any K hK g _ _ _ (by first | exact hT | exact hT.alloc _ | exact (hT.alloc _).alloc _ | exact hT.drew)).mono ?_; rintro e w3 ⟨y, rfl, ⟨hy0, hy1⟩, hTy⟩; have HQ := Lib.hid (HQ.out.nxx hTy); clear hTy; have hT := Nx.refl HQ.out.src)
  go_cut [] (fun wx => ∃ r d : Int, Hid (S21 K g w wx Gs r d))
  case first =>
    go_wp2_with ((go_at_call 80; refine (spec_l01Pick_new K hK g _ _ _ _ (by first | exact hT | exact hT.alloc _ | exact (hT.alloc _).alloc _ | exact hT.drew) (by rfl) (by decide) (by decide) (by rfl)).mono ?_; rintro e w3 ⟨z, rfl, hz, hTy⟩; simp only [OneOf, Value.int.injEq, true_and, or_false] at hz; have HQ := Lib.hid (HQ.out.nxx hTy); clear hTy; have hT := Nx.refl HQ.out.src); have z4 := HQ.out.s.frozen 0; have f4 := HQ.out.s.cell 0)
    · go_meet
      case rel => exact ⟨_, _, Lib.hid (HQ.out.put z (by omega))⟩
    · go_meet
      case rel => exact ⟨_, _, HQ⟩
  case rest =>
    clear HQ hT
    obtain ⟨r, d, HQ⟩ := hcut
    have hcS := Lib.hid (Blk.agg (cs := [.int .i64 r, .int .i64 d]) HQ.out.s 0 [.int .i64 r, .int .i64 d] rfl)
    have zc0 : wc.cell? ⟨w.heap.size, 0, none⟩ = some (.int .i64 0) := HQ.out.z.cell 0
    have zf0 : wc.frozen? ⟨w.heap.size, 0, none⟩ = false := HQ.out.z.frozen 0
    have zc1 : wc.cell? ⟨w.heap.size, 1, none⟩ = some (.int .i64 0) := HQ.out.z.cell 1
    have zf1 : wc.frozen? ⟨w.heap.size, 1, none⟩ = false := HQ.out.z.frozen 1
    go_wp2_with (refine wpList_load_agg rfl 31 _ rfl ⟨Gs, 0, none⟩ rfl [.int .i64 r, .int .i64 d] hcS.out _ Tryz.underlying31 rfl Scenario.size ?_)
    have hz9 : Blk ((wc.setCell ⟨w.heap.size, 0, none⟩ (.int .i64 r)).setCell ⟨w.heap.size, 1, none⟩ (.int .i64 d)) w.heap.size 31 #[.int .i64 r, .int .i64 d] := by simpa using (HQ.out.z.set_ 0 (.int .i64 r)).set_ 1 (.int .i64 d)
    have hb9 := ((Below.refl w.heap.size wc).setCell (p := ⟨w.heap.size, 0, none⟩) (Nat.le_refl _) (.int .i64 r)).setCell (p := ⟨w.heap.size, 1, none⟩) (Nat.le_refl _) (.int .i64 d)
    generalize (wc.setCell ⟨w.heap.size, 0, none⟩ (.int .i64 r)).setCell ⟨w.heap.size, 1, none⟩ (.int .i64 d) = W9 at hz9 hb9 ⊢
    have r0 : W9.cell? ⟨w.heap.size, 0, none⟩ = some (.int .i64 r) := hz9.cell 0
    have r1 : W9.cell? ⟨w.heap.size, 1, none⟩ = some (.int .i64 d) := hz9.cell 1
    refine bodyPost_ret (v := .agg #[.int .i64 r, .int .i64 d]) (by simp [results, Tryz.results74, go_sem, r0, r1]) rfl ?_
    exact ⟨r, d, rfl, HQ.out.hr, HT0.out.trans (HQ.out.nx.kept HQ.out.gw (Nat.le_refl _) hb9)⟩
end Go.Proofs.YtbjdbpdgacfcpaaGreat
end

/- Draws of the arguments of laws on portfolios (printed by drawx.py). -/
section
namespace Go.Proofs.YtbjdbpdgacfcpaaGreat
open Go.RowKit Go.BigFrame

set_option maxRecDepth 100000 in
set_option maxHeartbeats 8000000 in
theorem spec_DrawTotalReserve_any (K : Code) (hK : K.Ok) (w : World) (hX : Rd w w.heap.size K.A 1 (byteRows K.bs)) :
    Calls Tryz.prog 36 #[.slice K.A K.n K.c] w fun e w' => ∃ (b : Bas) (A : Option Addr) (n c : Nat) (A2 : Option Addr) (k c2 : Nat) (xs : List Holding), e = .returned (.tuple #[.agg #[.int .i64 b.first, .slice A n c, .int .i64 b.rate], .slice A2 k c2]) ∧ PB w.heap.size w' b A n c A2 k c2 xs ∧ Below w.heap.size w w' := by
  have hb0 : Below w.heap.size w (w.alloc (.cells #[.int .i64 0, .slice none 0 0, .int .i64 0] 28)) := (Below.refl _ w).alloc (Nat.le_refl _) _
  have HZ0 := Lib.hid (Blk.new w 28 #[.int .i64 0, .slice none 0 0, .int .i64 0])
  have hX := hX.past hb0
  have HBW := Lib.hid hb0; clear hb0
  have HSZ := Lib.hid (show w.heap.size + 1 ≤ (w.alloc (.cells #[.int .i64 0, .slice none 0 0, .int .i64 0] 28)).heap.size by simp)
  go_enter Tryz.func36, Tryz.ntmps36
  go_wp2_with fail
  generalize (w.alloc (.cells #[.int .i64 0, .slice none 0 0, .int .i64 0] 28)) = Wa at HZ0 HBW HSZ hX ⊢
  refine (spec_l01From_any K hK _ hX).mono ?_
  rintro e w1 ⟨g, rfl, hg, hb, hS⟩
  clear hX
  have hT := Nx.refl hS
  go_wp2_with fail
  refine (spec_l17Draw_pb K hK g _ _ hT).mono ?_
  rintro e w3 ⟨b, A1, n1, c1, A2, k, c2, xs, rfl, hP, hT⟩
  have hsz := HSZ.out
  have hg1 : g < w1.heap.size := hS.lt
  have h12 := hT.size
  have hn0 : w.heap.size ≠ g := by omega
  have HP := Lib.hid hP
  have HBW := Lib.hid (HBW.out.trans ((hb.mono (by omega)).trans (hT.below.mono (by omega))))
  have HZ0 := Lib.hid ((HZ0.out.below' hb).nx hT hn0)
  clear hP hT hS
  have zc0 : w3.cell? ⟨w.heap.size, 0, none⟩ = some (.int .i64 0) := HZ0.out.cell 0
  have zf0 : w3.frozen? ⟨w.heap.size, 0, none⟩ = false := HZ0.out.frozen 0
  have zc1 : w3.cell? ⟨w.heap.size, 1, none⟩ = some (.slice none 0 0) := HZ0.out.cell 1
  have zf1 : w3.frozen? ⟨w.heap.size, 1, none⟩ = false := HZ0.out.frozen 1
  have zc2 : w3.cell? ⟨w.heap.size, 2, none⟩ = some (.int .i64 0) := HZ0.out.cell 2
  have zf2 : w3.frozen? ⟨w.heap.size, 2, none⟩ = false := HZ0.out.frozen 2
  go_wp2_with fail
  have hz9 : Blk (((w3.setCell ⟨w.heap.size, 0, none⟩ (.int .i64 b.first)).setCell ⟨w.heap.size, 1, none⟩ (.slice A1 n1 c1)).setCell ⟨w.heap.size, 2, none⟩ (.int .i64 b.rate)) w.heap.size 28 #[.int .i64 b.first, .slice A1 n1 c1, .int .i64 b.rate] := by simpa using (((HZ0.out.set_ 0 (.int .i64 b.first)).set_ 1 (.slice A1 n1 c1)).set_ 2 (.int .i64 b.rate))
  have hb9 : Below w.heap.size w (((w3.setCell ⟨w.heap.size, 0, none⟩ (.int .i64 b.first)).setCell ⟨w.heap.size, 1, none⟩ (.slice A1 n1 c1)).setCell ⟨w.heap.size, 2, none⟩ (.int .i64 b.rate)) := (((HBW.out.setCell (p := ⟨w.heap.size, 0, none⟩) (by show w.heap.size ≤ w.heap.size; omega) (.int .i64 b.first)).setCell (p := ⟨w.heap.size, 1, none⟩) (by show w.heap.size ≤ w.heap.size; omega) (.slice A1 n1 c1)).setCell (p := ⟨w.heap.size, 2, none⟩) (by show w.heap.size ≤ w.heap.size; omega) (.int .i64 b.rate))
  have hp9 : PB w1.heap.size (((w3.setCell ⟨w.heap.size, 0, none⟩ (.int .i64 b.first)).setCell ⟨w.heap.size, 1, none⟩ (.slice A1 n1 c1)).setCell ⟨w.heap.size, 2, none⟩ (.int .i64 b.rate)) b A1 n1 c1 A2 k c2 xs := (((HP.out.low (show w.heap.size < w1.heap.size by omega) 0 (.int .i64 b.first)).low (show w.heap.size < w1.heap.size by omega) 1 (.slice A1 n1 c1)).low (show w.heap.size < w1.heap.size by omega) 2 (.int .i64 b.rate))
  clear zc0 zf0 zc1 zf1 zc2 zf2
  generalize (((w3.setCell ⟨w.heap.size, 0, none⟩ (.int .i64 b.first)).setCell ⟨w.heap.size, 1, none⟩ (.slice A1 n1 c1)).setCell ⟨w.heap.size, 2, none⟩ (.int .i64 b.rate)) = W9 at hz9 hb9 hp9 ⊢
  have q0 : W9.cell? ⟨w.heap.size, 0, none⟩ = some (.int .i64 b.first) := hz9.cell 0
  have q1 : W9.cell? ⟨w.heap.size, 1, none⟩ = some (.slice A1 n1 c1) := hz9.cell 1
  have q2 : W9.cell? ⟨w.heap.size, 2, none⟩ = some (.int .i64 b.rate) := hz9.cell 2
  have HP9 := Lib.hid hp9; have HB9 := Lib.hid hb9; clear hp9 hb9
  go_wp2_with fail
  refine bodyPost_ret (v := .tuple #[.agg #[.int .i64 b.first, .slice A1 n1 c1, .int .i64 b.rate], .slice A2 k c2]) (by simp [results, Tryz.results36, go_sem, q0, q1, q2]) rfl ?_
  exact ⟨b, A1, n1, c1, A2, k, c2, xs, rfl, HP9.out.more (by omega), HB9.out⟩
end Go.Proofs.YtbjdbpdgacfcpaaGreat
end

/- How a law that draws opens its code, and from its walk to its row. No condition. -/
section
namespace Go.Proofs.YtbjdbpdgacfcpaaGreat
open Go.ChangeShapes Go.WideShapes Go.ChangeAt Go.RowKit Go.Deep

section
variable {H : Type} {enc : TypeId × Value → H} {P : Program} {w : World} {base : Nat} {spare : Nat → Bool} {held : Bool}
theorem open_code {t e : TypeId} {fuel n cap : Nat} {A : Option Addr} {x : DataW H × List MemPlace} (ht : P.underlying t = some (.slice e)) (he : P.underlying e = some (.int .u8)) (hC : P.cellsOf e = 1)
    (h : DataW.trod enc P w base spare held fuel t [.slice A n cap] = some x) :
    ∃ bs : List Int, bs.length = n ∧ (∀ z ∈ bs, 0 ≤ z ∧ z ≤ 255) ∧ Rd w w.heap.size A 1 (byteRows bs) ∧ n ≤ 9223372036854775807 := by
  rcases open_slice ht h with ⟨h0, _⟩ | ⟨a, len, cap', m', n', D, Pl, hcs, hb, hl, hmx, hmm, _, hel⟩
  · simp only [List.cons.injEq, Value.slice.injEq, and_true] at h0
    obtain ⟨rfl, rfl, _⟩ := h0
    exact ⟨[], rfl, by simp, .inl rfl, by omega⟩
  · simp only [List.cons.injEq, Value.slice.injEq, and_true] at hcs
    obtain ⟨rfl, rfl, rfl⟩ := hcs
    have hle : n ≤ m' := by rw [hmm]; split <;> omega
    have each : ∀ i : Nat, i < n → ∃ z : Int, (0 ≤ z ∧ z ≤ 255) ∧ w.cell? (a.add i) = some (.int .u8 z) := by
      intro i hin
      obtain ⟨cs', hc, htr⟩ := hel i (by omega)
      obtain ⟨z, rfl, _, wn⟩ := DataW.trod_int he htr
      obtain ⟨_, hcl, hat⟩ := World.cells?_some hc
      have := hat 0 (by rw [hC]; omega)
      rw [hC, add_of_add] at this
      refine ⟨z, ?_, by simpa using this⟩
      simpa [Lit.wf, IntKind.min, IntKind.max, IntKind.signed, IntKind.bits] using wn
    obtain ⟨bs, hbl, hbs⟩ := list_of n each
    have hmx' : n ≤ 9223372036854775807 := by unfold maxLen at *; omega
    refine ⟨bs, hbl, fun z hz => ?_, ?_, hmx'⟩
    · obtain ⟨i, hi', rfl⟩ := List.getElem_of_mem hz
      exact (hbs i _ (List.getElem?_eq_getElem hi')).1
    · rcases Nat.eq_zero_or_pos n with h0 | h0
      · have : bs = [] := List.eq_nil_of_length_eq_zero (by omega)
        subst this; exact .inl rfl
      · have hblk : a.block < w.heap.size := by
          obtain ⟨z, hz⟩ := get_of_lt (xs := bs) (k := 0) (by omega)
          have := block_lt_of_cell (hbs 0 z hz).2
          rwa [block_of_add] at this
        refine .inr ⟨a, rfl, hblk, fun k r hk => ?_⟩
        simp only [byteRows, List.getElem?_map, Option.map_eq_some_iff] at hk
        obtain ⟨z, hk, rfl⟩ := hk
        refine ⟨rfl, fun j v hv => ?_⟩
        have hj : j = 0 := by have := (List.getElem?_eq_some_iff.1 hv).1; simp at this; exact this
        subst hj
        simp only [List.getElem?_cons_zero, Option.some.injEq] at hv
        subst hv
        simpa using (hbs k z hk).2
end
theorem laws_big_any (A : Option Addr) (n cap : Nat) (w : World) (_hn : n ≤ 9223372036854775807) : Calls Tryz.prog 8 #[.slice A n cap] w fun e w' => e = .returned (.bool (decide (4096 < n))) ∧ w = w' := by
  by_cases h : 4096 < n
  · go_enter Tryz.func8, Tryz.ntmps8
    go_wp2
    go_ret
    exact ⟨by simp; omega, rfl⟩
  · go_enter Tryz.func8, Tryz.ntmps8
    go_wp2
    go_ret
    exact ⟨by simp; omega, rfl⟩
end Go.Proofs.YtbjdbpdgacfcpaaGreat
end

/- The laws' own helpers: equal lists are like each other; the sum of a list. -/
section
namespace Go.Proofs.YtbjdbpdgacfcpaaGreat
open Go.RowKit Go.BigFrame

theorem likeInts_any (A : Option Addr) (n cap : Nat) (A2 : Option Addr) (cap2 : Nat) (xs : List Int) (w : World) (hl : xs.length = n) (hn : n ≤ 1048576) (hX : Rd w w.heap.size A 1 (intRows xs)) (hX2 : Rd w w.heap.size A2 1 (intRows xs)) :
    Calls Tryz.prog 46 #[.slice A n cap, .slice A2 n cap2] w fun e w' => e = .returned (.bool true) ∧ Below w.heap.size w w' := by
  have HX := Lib.hid hX; clear hX
  have HX2 := Lib.hid hX2; clear hX2
  have HL := Lib.hid hl; clear hl
  go_enter Tryz.func46, Tryz.ntmps46
  go_wp2
  go_loopw [5] (fun i wr => ∃ k : Nat, k ≤ n ∧ i = .int .i64 k ∧ Below w.heap.size w wr) (fun i _ => n - (intOf i).toNat)
  case atStart => exact ⟨0, by omega, rfl, Below.refl _ _⟩
  case round =>
    obtain ⟨k, hk, rfl, hb⟩ := hrel
    by_cases hlt : k < n
    · obtain ⟨x, hx⟩ := get_of_lt (xs := xs) (k := k) (by rw [HL.out]; exact hlt)
      obtain ⟨ad, rfl, had, hc⟩ := (HX.out.past hb).int_at hx
      obtain ⟨ad2, rfl, had2, hc2⟩ := (HX2.out.past hb).int_at hx
      clear hx
      have d0 := fun y : Past wr => Past.cell hc y
      have d1 := fun y : Past wr => Past.cell hc2 y
      have hki : (k : Int) < (n : Int) := by omega
      clear hc hc2
      go_wp2
      refine wp_region_past (by kernel_rfl) (by kernel_rfl) ?_
      repeat (go_big_quiet_step (fail))
      refine wpQuiet_nil ?_
      rintro _ ⟨y, rfl⟩
      go_wp2
      go_roundw
      case rel => exact ⟨k + 1, by omega, by go_num, hb.trans (y.2.mono hb.size)⟩
      case measure => simp [intOf]; omega
    · have hki : ¬ (k : Int) < (n : Int) := by omega
      go_wp2
      go_ret
      exact ⟨rfl, hb⟩

def SumOk (xs : List Int) : Prop := ∀ k : Nat, -4000000000000000000 ≤ (xs.take k).sum ∧ (xs.take k).sum ≤ 4000000000000000000
theorem takeSum_snoc {xs : List Int} {k : Nat} {x : Int} (hx : xs[k]? = some x) : (xs.take (k + 1)).sum = (xs.take k).sum + x := by
  rw [take_succ_snoc hx]; simp
theorem sumOk_of {lo hi : Int} (h0 : lo ≤ 0) (h1 : 0 ≤ hi) {n : Nat} : ∀ (xs : List Int), xs.length ≤ n → (∀ x ∈ xs, lo ≤ x ∧ x ≤ hi) → lo * (n : Int) ≤ xs.sum ∧ xs.sum ≤ hi * (n : Int)
  | [], _, _ => by
    simp only [List.sum_nil]
    exact ⟨by have := Int.mul_nonneg (show 0 ≤ -lo by omega) (show (0 : Int) ≤ n by omega); rw [Int.neg_mul] at this; omega, Int.mul_nonneg h1 (by omega)⟩
  | x :: r, hl, h => by
    cases n with
    | zero => simp at hl
    | succ n =>
      obtain ⟨h2, h3⟩ := sumOk_of h0 h1 (n := n) r (by simpa using hl) fun y hy => h y (by simp [hy])
      have h4 := h x (by simp)
      simp only [List.sum_cons]
      have e1 : lo * ((n + 1 : Nat) : Int) = lo * (n : Int) + lo := by rw [Int.natCast_add, Int.mul_add]; simp
      have e2 : hi * ((n + 1 : Nat) : Int) = hi * (n : Int) + hi := by rw [Int.natCast_add, Int.mul_add]; simp
      omega
theorem SumOk.of {lo hi : Int} {xs : List Int} {n : Nat} (h0 : lo ≤ 0) (h1 : 0 ≤ hi) (hl : xs.length ≤ n) (h : ∀ x ∈ xs, lo ≤ x ∧ x ≤ hi) (hb : -4000000000000000000 ≤ lo * (n : Int) ∧ hi * (n : Int) ≤ 4000000000000000000) : SumOk xs := fun k => by
  have := sumOk_of h0 h1 (n := n) (xs.take k) (by simp; omega) fun x hx => h x (List.mem_of_mem_take hx)
  omega

theorem laws_sum_any (A : Option Addr) (n cap : Nat) (xs : List Int) (w : World) (hl : xs.length = n) (hn : n ≤ 1048576) (hX : Rd w w.heap.size A 1 (intRows xs)) (hs : SumOk xs) :
    Calls Tryz.prog 47 #[.slice A n cap] w fun e w' => e = .returned (.int .i64 xs.sum) ∧ w = w' := by
  have HX := Lib.hid hX; clear hX
  have HL := Lib.hid hl; clear hl
  have HS := Lib.hid hs; clear hs
  go_enter Tryz.func47, Tryz.ntmps47
  go_wp2
  go_loop [3, 4] (fun s i => ∃ k : Nat, k ≤ n ∧ i = .int .i64 k ∧ s = .int .i64 (xs.take k).sum) (fun _ i => n - (intOf i).toNat)
  case atStart => exact ⟨0, by omega, rfl, rfl⟩
  case round =>
    obtain ⟨k, hk, rfl, rfl⟩ := hrel
    by_cases hlt : k < n
    · obtain ⟨x, hx⟩ := get_of_lt (xs := xs) (k := k) (by rw [HL.out]; exact hlt)
      obtain ⟨ad, rfl, had, hc⟩ := HX.out.int_at hx
      have HE := Lib.hid (takeSum_snoc hx)
      obtain ⟨s0, s1⟩ := HS.out (k + 1)
      rw [HE.out] at s0 s1
      obtain ⟨t0, t1⟩ := HS.out k
      generalize (xs.take k).sum = S at HE s0 s1 t0 t1 ⊢
      have Hx := Lib.hid hx; clear hx
      have hki : (k : Int) < (n : Int) := by omega
      go_wp2
      go_round
      case rel => exact ⟨k + 1, by omega, by go_num, by rw [HE.out]⟩
      case measure => simp [intOf]; omega
    · have hki : ¬ (k : Int) < (n : Int) := by omega
      have hkn : k = n := by omega
      subst hkn
      go_wp2
      go_ret
      exact ⟨by rw [List.take_of_length_le (by rw [HL.out]; exact Nat.le_refl _)]; rfl, rfl⟩
end Go.Proofs.YtbjdbpdgacfcpaaGreat
end

/- Slices that are read in later worlds, many at once. -/
section
namespace Go.Proofs.YtbjdbpdgacfcpaaGreat
open Go.RowKit Go.BigFrame
def Held (w : World) (L : List (Option Addr × Nat × List (List Value))) : Prop := ∀ x ∈ L, Rd w w.heap.size x.1 x.2.1 x.2.2
theorem Held.nil (w : World) : Held w [] := by intro x hx; cases hx
section
variable {w w' : World} {L : List (Option Addr × Nat × List (List Value))} {A : Option Addr} {sz : Nat} {rows : List (List Value)}
theorem Held.past (h : Held w L) (hb : Below w.heap.size w w') : Held w' L := fun x hx => (h x hx).past hb
theorem Held.snoc (h : Held w L) (hr : Rd w w.heap.size A sz rows) : Held w (L ++ [(A, sz, rows)]) := by
  intro x hx
  rcases List.mem_append.1 hx with hx | hx
  · exact h x hx
  · simp only [List.mem_singleton] at hx; rw [hx]; exact hr
theorem Held.cons (h : Held w L) (hr : Rd w w.heap.size A sz rows) : Held w ((A, sz, rows) :: L) := by
  intro x hx
  rcases List.mem_cons.1 hx with hx | hx
  · rw [hx]; exact hr
  · exact h x hx
theorem Held.get (h : Held w L) (k : Nat) (e : L[k]? = some (A, sz, rows)) : Rd w w.heap.size A sz rows := h _ (List.mem_of_getElem? e)
end
theorem Blk.rd {w : World} {g : Nat} {t : TypeId} {r : List Value} (h : Blk w g t r.toArray) : Rd w w.heap.size (some ⟨g, 0, none⟩) r.length [r] := by
  refine .inr ⟨_, rfl, h.lt, fun k r' hk => ?_⟩
  have h0 : k = 0 := by have := (List.getElem?_eq_some_iff.1 hk).1; simp at this; exact this
  subst h0
  simp only [List.getElem?_cons_zero, Option.some.injEq] at hk
  subst hk
  exact ⟨rfl, fun j v hv => by rw [add_none, h.cell]; simpa using hv⟩
/-- the cells of the one row of a box -/
theorem Rd.box {w : World} {B : Nat} {g sz : Nat} {r : List Value} (h : Rd w B (some ⟨g, 0, none⟩) sz [r]) : ∀ (j : Nat) (v : Value), r[j]? = some v → w.cell? ((⟨g, 0, none⟩ : Addr).add j) = some v := by
  intro j v hv
  rcases h with h | ⟨ad, e, _, hc⟩
  · cases h
  · injection e with e; subst e
    have := (hc 0 r rfl).2 j v hv
    simpa using this
theorem res_cap {w : World} {B t sz n cap : Nat} {A : Option Addr} {rows : List (List Value)} (h : Res B w t sz A n cap rows) : n ≤ cap := by
  rcases h.own.2 with ⟨h1, h2⟩ | ⟨g, c, cur, e, _, _, hnc, _⟩
  · simp only [Value.slice.injEq] at h1; omega
  · simp only [Value.slice.injEq] at e; omega
theorem Rd.boxT {w : World} {B g sz : Nat} {a b c : Value} (h : Rd w B (some ⟨g, 0, none⟩) sz [[a, b, c]]) : ∀ (j : Nat) (v : Value), [a, b][j]? = some v → w.cell? ((⟨g, 0, none⟩ : Addr).add j) = some v := fun j v hv => Rd.box h j v (by
  match j, hv with
  | 0, hv => simpa using hv
  | 1, hv => simpa using hv)
theorem below_all {w0 w1 w2 : World} (h : Below w0.heap.size w0 w1) (hb : Below w1.heap.size w1 w2) : Below w0.heap.size w0 w2 := h.trans (hb.mono h.size)
end Go.Proofs.YtbjdbpdgacfcpaaGreat
end

/- Tables are compared; what a law on portfolios knows of what was drawn. -/
section
namespace Go.Proofs.YtbjdbpdgacfcpaaGreat
open Go.RowKit Go.BigFrame
set_option maxHeartbeats 1000000 in
theorem likeTables9_any (f : Int) (A : Option Addr) (n cap : Nat) (A2 : Option Addr) (cap2 : Nat) (xs : List Int) (w : World) (hl : xs.length = n) (hn : n ≤ 1048576) (hX : Rd w w.heap.size A 1 (intRows xs)) (hX2 : Rd w w.heap.size A2 1 (intRows xs)) :
    Calls Tryz.prog 18 #[.agg #[.int .i64 f, .slice A n cap], .agg #[.int .i64 f, .slice A2 n cap2]] w fun e w' => e = .returned (.bool true) ∧ Below w.heap.size w w' := by
  have hb : Below w.heap.size w ((w.alloc (.cells #[.int .i64 f, .slice A n cap] 26)).alloc (.cells #[.int .i64 f, .slice A2 n cap2] 26)) := ((Below.refl _ w).alloc (Nat.le_refl _) _).alloc (by simp) _
  have HX := Lib.hid (hX.past hb)
  have HX2 := Lib.hid (hX2.past hb)
  have HB := Lib.hid hb
  clear hX hX2 hb
  go_enter Tryz.func18, Tryz.ntmps18
  go_wp2_with (go_at_call 46; refine (likeInts_any A n cap A2 cap2 xs _ hl hn HX.out HX2.out).mono ?_; rintro e w' ⟨rfl, hb⟩)
  go_ret
  exact ⟨rfl, HB.out.trans (hb.mono HB.out.size)⟩
theorem Rd.bcell {w : World} {B g sz : Nat} {r : List Value} (h : Rd w B (some ⟨g, 0, none⟩) sz [r]) (j : Nat) {v : Value} (hv : r[j]? = some v) : w.cell? ⟨g, j, none⟩ = some v := by
  have := Rd.box h j v hv
  rw [add_none] at this
  simpa using this
/-- what is known of a drawn basis and portfolio, beside their cells -/
structure PF (b : Bas) (n c : Nat) (k : Nat) (xs : List Holding) : Prop where
  sm : BasSmall b n
  len : k ≤ 100
  fits : ∀ x ∈ xs, x.fits
  xlen : xs.length = k
  blen : b.lives.length = n
  cap : n ≤ c
theorem PB.pf {B : Nat} {w : World} {b : Bas} {A : Option Addr} {n c : Nat} {A2 : Option Addr} {k c2 : Nat} {xs : List Holding} (h : PB B w b A n c A2 k c2 xs) : PF b n c k xs := ⟨h.sm, h.len, h.fits, h.xlen, h.blen, res_cap h.liv⟩
/-- .. of a drawn basis alone -/
structure BF (b : Bas) (n c : Nat) : Prop where
  sm : BasSmall b n
  blen : b.lives.length = n
  cap : n ≤ c
theorem PF.bf {b : Bas} {n c k : Nat} {xs : List Holding} (h : PF b n c k xs) : BF b n c := ⟨h.sm, h.blen, h.cap⟩
theorem BF.of {B : Nat} {w : World} {b : Bas} {A : Option Addr} {n c : Nat} (h : Res B w 2 1 A n c (intRows b.lives)) (hs : BasSmall b n) : BF b n c := ⟨hs, by have := h.len; rwa [intRows_length] at this, res_cap h⟩
theorem liesT_of {w : World} {A : Option Addr} {n : Nat} {xs : List Int} (hr : Rd w w.heap.size A 1 (intRows xs)) (hl : xs.length = n) (hn : n ≤ 1048576) (h : ∀ x ∈ xs, 0 ≤ x ∧ x ≤ 1000001) : LiesT w A n xs :=
  ⟨hl, hn, hr, fun x hx => by have := h x hx; unfold In64; omega⟩
theorem BF.basT {w : World} {b : Bas} {A : Option Addr} {n c : Nat} (h : BF b n c) (hr : Rd w w.heap.size A 1 (intRows b.lives)) : BasT w A n c b := by
  refine ⟨liesT_of hr h.blen (by have := h.sm.len; omega) h.sm.lives, h.cap, ?_, ?_⟩
  · have := h.sm.first; unfold In64; omega
  · have := h.sm.rate; unfold In64; omega
theorem tab_lives {f : Int} {xs : List Int} (h : tableB f xs = true) : ∀ x ∈ xs, 0 ≤ x ∧ x ≤ 1000001 := by
  intro x hx
  have T := table_ok h
  obtain ⟨k, hk, rfl⟩ := List.getElem_of_mem hx
  have e : lv xs k = xs[k] := lv_get (List.getElem?_eq_getElem hk)
  have h1 := T.nonneg k
  have h2 := T.most k
  omega
theorem tab_first {f : Int} {xs : List Int} (h : tableB f xs = true) : In64 f := by
  have T := table_ok h
  have h1 := T.first0; have h2 := T.first1
  unfold In64; omega
theorem tabT_good {w : World} {A : Option Addr} {n : Nat} {f : Int} {xs : List Int} (h : tableB f xs = true) (hr : Rd w w.heap.size A 1 (intRows xs)) (hl : xs.length = n) : LiesT w A n xs :=
  liesT_of hr hl (by have := (table_ok h).len1; omega) (tab_lives h)
theorem basT_good {w : World} {A : Option Addr} {n c : Nat} {b : Bas} (h : basisB b = true) (hr : Rd w w.heap.size A 1 (intRows b.lives)) (hl : b.lives.length = n) (hc : n ≤ c) : BasT w A n c b := by
  have B := basis_ok h
  have ht : tableB b.first b.lives = true := by simp only [basisB, Bool.and_eq_true] at h; exact h.1
  refine ⟨tabT_good ht hr hl, hc, tab_first ht, ?_⟩
  have h1 := B.rate0; have h2 := B.rate1
  unfold In64; omega
theorem chgT_len {f dt : Int} {xs : List Int} : (chgTP f xs dt).2.1.length ≤ 1048576 := by
  unfold chgTP
  split
  · rename_i h1
    split
    · have := chgL_small (dt := dt) h1
      show (chgL xs dt).length ≤ 1048576
      omega
    · simp
  · simp
theorem chgB_len {b : Bas} {r : Scenario} : (chgBP b r).1.lives.length ≤ 1048576 := by
  unfold chgBP
  split
  · rename_i h1
    split
    · have ht : tableB b.first b.lives = true := by simp only [basisB, Bool.and_eq_true] at h1; exact h1.1
      have := chgL_small (dt := r.death) ht
      show (chgL b.lives r.death).length ≤ 1048576
      omega
    · simp
  · simp
theorem scen_fit2 {r d : Int} (h : (-1000 ≤ r ∧ r ≤ 1000) ∧ (-1000 ≤ d ∧ d ≤ 1000)) : (⟨r, d⟩ : Scenario).fits := by
  show In64 r ∧ In64 d
  unfold In64; omega
theorem box2 {w : World} {tx ty : TypeId} {X Y : List Value} : Below w.heap.size w ((w.alloc (.cells X.toArray tx)).alloc (.cells Y.toArray ty)) ∧ Rd ((w.alloc (.cells X.toArray tx)).alloc (.cells Y.toArray ty)) ((w.alloc (.cells X.toArray tx)).alloc (.cells Y.toArray ty)).heap.size (some ⟨w.heap.size, 0, none⟩) X.length [X] ∧ Rd ((w.alloc (.cells X.toArray tx)).alloc (.cells Y.toArray ty)) ((w.alloc (.cells X.toArray tx)).alloc (.cells Y.toArray ty)).heap.size (some ⟨w.heap.size + 1, 0, none⟩) Y.length [Y] := by
  refine ⟨((Below.refl _ w).alloc (Nat.le_refl _) _).alloc (by simp) _, Blk.rd ((Blk.new w tx X.toArray).alloc _), ?_⟩
  have h := Blk.new (w.alloc (.cells X.toArray tx)) ty Y.toArray
  simp only [World.size_alloc] at h
  exact Blk.rd h
theorem box1 {w : World} {tx : TypeId} {X : List Value} : Below w.heap.size w (w.alloc (.cells X.toArray tx)) ∧ Rd (w.alloc (.cells X.toArray tx)) (w.alloc (.cells X.toArray tx)).heap.size (some ⟨w.heap.size, 0, none⟩) X.length [X] :=
  ⟨(Below.refl _ w).alloc (Nat.le_refl _) _, Blk.rd (Blk.new w tx X.toArray)⟩
end Go.Proofs.YtbjdbpdgacfcpaaGreat
end

/- The premium income of a portfolio: the program's and the reference's contracts. -/
section
namespace Go.Proofs.YtbjdbpdgacfcpaaGreat
open Go.RowKit Go.BigFrame

def netV (b : Bas) (h : Holding) : Int := h.count * netP b h.pol
def loadV (b : Bas) (h : Holding) : Int := h.count * (officeP b h.pol - netP b h.pol)
def netL (b : Bas) (xs : List Holding) : List Int := xs.map (netV b)
def loadL (b : Bas) (xs : List Holding) : List Int := xs.map (loadV b)
theorem netL_get {b : Bas} {xs : List Holding} {k : Nat} {x : Holding} (h : xs[k]? = some x) : (netL b xs)[k]? = some (x.count * netP b x.pol) := by simp [netL, netV, h]
theorem loadL_get {b : Bas} {xs : List Holding} {k : Nat} {x : Holding} (h : xs[k]? = some x) : (loadL b xs)[k]? = some (x.count * (officeP b x.pol - netP b x.pol)) := by simp [loadL, loadV, h]
theorem prem_bound {b : Bas} {h : Holding} (H : holdB b h = true) : (0 ≤ netP b h.pol ∧ netP b h.pol ≤ 100000000) ∧ (0 ≤ officeP b h.pol - netP b h.pol ∧ officeP b h.pol - netP b h.pol ≤ 200000000) ∧ (0 ≤ h.count * netP b h.pol ∧ h.count * netP b h.pol ≤ 200000000000000) ∧ (0 ≤ h.count * (officeP b h.pol - netP b h.pol) ∧ h.count * (officeP b h.pol - netP b h.pol) ≤ 200000000000000) := by
  obtain ⟨⟨c0, c1⟩, Y⟩ := hold_ok H
  have n1 := net_bound Y.toPolOk
  have o1 := office_bound Y.toPolOk
  have g : ∀ z : Int, 0 ≤ z → z ≤ 200000000 → 0 ≤ h.count * z ∧ h.count * z ≤ 200000000000000 := fun z z0 z1 => by
    refine ⟨Int.mul_nonneg c0 z0, ?_⟩
    have := Int.mul_le_mul c1 z1 z0 (by omega)
    omega
  exact ⟨n1, ⟨by omega, by omega⟩, g _ n1.1 (by omega), g _ (by omega) (by omega)⟩
theorem netL_sums {b : Bas} {xs : List Holding} (hl : xs.length ≤ 30) (hh : ∀ x ∈ xs, holdB b x = true) : Sums (netL b xs) :=
  (sums_of (n := 30) (hi := 200000000000000) (by omega) (by simpa [netL] using hl) (fun v hv => by
    obtain ⟨x, hx, rfl⟩ := List.mem_map.1 hv
    exact (prem_bound (hh x hx)).2.2.1) (by omega)).1
theorem loadL_sums {b : Bas} {xs : List Holding} (hl : xs.length ≤ 30) (hh : ∀ x ∈ xs, holdB b x = true) : Sums (loadL b xs) :=
  (sums_of (n := 30) (hi := 200000000000000) (by omega) (by simpa [loadL] using hl) (fun v hv => by
    obtain ⟨x, hx, rfl⟩ := List.mem_map.1 hv
    exact (prem_bound (hh x hx)).2.2.2) (by omega)).1
def incP (b : Bas) (xs : List Holding) : Int × Int × Int := if portB b xs = true then ((netL b xs).sum, (loadL b xs).sum, 0) else (0, 0, 1)

end Go.Proofs.YtbjdbpdgacfcpaaGreat
end

/- The largest holding of a portfolio: the program's and the reference's contracts. -/
section
namespace Go.Proofs.YtbjdbpdgacfcpaaGreat
open Go.RowKit Go.BigFrame

def gd (ys : List Int) (k : Nat) : Int := ys.getD k 0
theorem gd_get {ys : List Int} {k : Nat} {y : Int} (h : ys[k]? = some y) : gd ys k = y := by simp [gd, h]
def bestIx (ys : List Int) : Nat → Nat
  | 0 => 0
  | k + 1 => if gd ys (bestIx ys k) < gd ys k then k else bestIx ys k
theorem bestIx_succ (ys : List Int) (k : Nat) : bestIx ys (k + 1) = if gd ys (bestIx ys k) < gd ys k then k else bestIx ys k := rfl
theorem best_lt {ys : List Int} {n : Nat} (h : 0 < n) : ∀ k, k ≤ n → bestIx ys k < n
  | 0, _ => h
  | k + 1, hk => by
    rw [bestIx_succ]
    have := best_lt (ys := ys) h k (by omega)
    split <;> omega
theorem best_max {ys : List Int} : ∀ k j, j < k → gd ys j ≤ gd ys (bestIx ys k)
  | 0, j, h => by omega
  | k + 1, j, h => by
    rw [bestIx_succ]
    by_cases hj : j = k
    · subst hj; split <;> omega
    · have := best_max (ys := ys) k j (by omega)
      split <;> omega
theorem best_first {ys : List Int} : ∀ k j, j < bestIx ys k → gd ys j < gd ys (bestIx ys k)
  | 0, j, h => by simp [bestIx] at h
  | k + 1, j, h => by
    rw [bestIx_succ] at h ⊢
    split at h
    · rename_i hc
      rw [if_pos hc]
      have := best_max (ys := ys) k j h
      omega
    · rename_i hc
      rw [if_neg hc]
      exact best_first k j h
theorem best_one (ys : List Int) : bestIx ys 1 = 0 := by rw [bestIx_succ]; split <;> rfl
def largeP (b : Bas) (xs : List Holding) : Int × Int := if portB b xs = true then (if xs.length = 0 then (0, 4) else ((bestIx (resL b xs) xs.length : Int), 0)) else (0, 1)

set_option maxHeartbeats 1000000 in
theorem maxInts_any (A : Option Addr) (n cap : Nat) (ys : List Int) (w : World) (hl : ys.length = n) (h0 : 0 < n) (hn : n ≤ 1048576) (hX : Rd w w.heap.size A 1 (intRows ys)) :
    Calls Tryz.prog 109 #[.slice A n cap] w fun e w' => e = .returned (.int .i64 (gd ys (bestIx ys n))) ∧ w = w' := by
  have HX := Lib.hid hX; clear hX
  have HL := Lib.hid hl; clear hl
  obtain ⟨y, hy⟩ := get_of_lt (xs := ys) (k := 0) (by rw [HL.out]; exact h0)
  obtain ⟨ad0, rfl, had0, hc0⟩ := HX.out.int_at hy
  have hc0' : w.cell? ad0 = some (.int .i64 y) := by have := hc0; rwa [Addr.add_zero'] at this
  have HY := Lib.hid (show gd ys (bestIx ys 1) = y by rw [best_one]; exact gd_get hy)
  have h1 : ¬ (n : Int) < 1 := by omega
  have h2 : (0 : Int) < n := by omega
  clear hy hc0
  go_enter Tryz.func109, Tryz.ntmps109
  go_wp2
  go_loop [3, 4] (fun s i => ∃ k : Nat, 1 ≤ k ∧ k ≤ n ∧ i = .int .i64 k ∧ s = .int .i64 (gd ys (bestIx ys k))) (fun _ i => n - (intOf i).toNat)
  case atStart => exact ⟨1, by omega, by omega, rfl, by rw [HY.out]⟩
  case round =>
    obtain ⟨k, hk1, hk, rfl, rfl⟩ := hrel
    by_cases hlt : k < n
    · obtain ⟨x, hx⟩ := get_of_lt (xs := ys) (k := k) (by rw [HL.out]; exact hlt)
      obtain ⟨ad, e, had, hc⟩ := HX.out.int_at hx
      obtain rfl : ad0 = ad := by injection e
      have HE := Lib.hid (show gd ys (bestIx ys (k + 1)) = max (gd ys (bestIx ys k)) x by
        rw [bestIx_succ, gd_get hx]
        split
        · rw [gd_get hx]; omega
        · omega)
      clear hx e
      go_wp2
      go_round
      case rel => exact ⟨k + 1, by omega, by omega, by go_num, by rw [HE.out]⟩
      case measure => simp [intOf]; omega
    · have hkn : k = n := by omega
      subst hkn
      go_wp2
      go_ret
      exact ⟨rfl, rfl⟩

set_option maxHeartbeats 1000000 in
theorem indexInts_any (A : Option Addr) (n cap : Nat) (ys : List Int) (v : Int) (q : Nat) (w : World) (hl : ys.length = n) (hn : n ≤ 1048576) (hX : Rd w w.heap.size A 1 (intRows ys)) (hq : q < n) (hv : gd ys q = v) (hf : ∀ j, j < q → gd ys j ≠ v) :
    Calls Tryz.prog 108 #[.slice A n cap, .int .i64 v] w fun e w' => e = .returned (.int .i64 q) ∧ w = w' := by
  have HX := Lib.hid hX; clear hX
  have HL := Lib.hid hl; clear hl
  have HV := Lib.hid hv; clear hv
  have HF := Lib.hid hf; clear hf
  go_enter Tryz.func108, Tryz.ntmps108
  go_wp2
  go_loop [8] (fun i => ∃ k : Nat, k ≤ q ∧ i = .int .i64 k) (fun i => n - (intOf i).toNat)
  case atStart => exact ⟨0, by omega, rfl⟩
  case round =>
    obtain ⟨k, hk, rfl⟩ := hrel
    have hlt : k < n := by omega
    obtain ⟨x, hx⟩ := get_of_lt (xs := ys) (k := k) (by rw [HL.out]; exact hlt)
    obtain ⟨ad, rfl, had, hc⟩ := HX.out.int_at hx
    by_cases hkq : k = q
    · have hxv : x = v := by rw [← HV.out, ← hkq]; exact (gd_get hx).symm
      subst hkq hxv
      clear hx
      go_wp2
      go_ret
      exact ⟨rfl, rfl⟩
    · have hxv : ¬ x = v := by rw [← gd_get hx]; exact HF.out k (by omega)
      have hxb : (v == x) = false := by simp; omega
      have hxc : (x == v) = false := by simp [hxv]
      clear hx
      go_wp2
      go_round
      case rel => exact ⟨k + 1, by omega, by go_num⟩
      case measure => simp [intOf]; omega


set_option maxHeartbeats 4000000 in
theorem spec_LargestHolding_any (b : Bas) (A : Option Addr) (n cap : Nat) (H : Option Addr) (m hcap : Nat) (xs : List Holding) (w : World) (hB : BasT w A n cap b) (hl : xs.length = m) (hm : m ≤ 1048576) (hX : Rd w w.heap.size H 7 (holdingRows xs)) (hf : ∀ x ∈ xs, x.fits) :
    Calls Tryz.prog 41 #[.agg #[.int .i64 b.first, .slice A n cap, .int .i64 b.rate], .slice H m hcap] w fun e w' => e = .returned (.tuple #[.int .i64 (largeP b xs).1, .int .i64 (largeP b xs).2]) ∧ Below w.heap.size w w' := by
  have hbw : Below w.heap.size w (w.alloc (.cells #[.int .i64 b.first, .slice A n cap, .int .i64 b.rate] 28)) := (Below.refl _ w).alloc (Nat.le_refl _) _
  have HB := Lib.hid (Blk.new w 28 #[.int .i64 b.first, .slice A n cap, .int .i64 b.rate])
  have HBT := Lib.hid (hB.past hbw); clear hB
  have HX := Lib.hid (hX.past hbw); clear hX
  have HL := Lib.hid hl; clear hl
  have HF := Lib.hid hf; clear hf
  have hcB0 := Lib.hid (Blk.agg (cs := [.int .i64 b.first, .slice A n cap, .int .i64 b.rate]) HB.out 0 [.int .i64 b.first, .slice A n cap, .int .i64 b.rate] rfl)
  cases hp : portB b xs
  · have Q := Lib.hid (show largeP b xs = (0, 1) by simp [largeP, hp])
    go_enter Tryz.func41, Tryz.ntmps41
    go_wp2_with (refine wpList_load_agg rfl 28 _ rfl ⟨w.heap.size, 0, none⟩ rfl [.int .i64 b.first, .slice A n cap, .int .i64 b.rate] hcB0.out _ Tryz.underlying28 rfl Bas.size ?_)
    refine (spec_IsPortfolio_any b A n cap H m hcap xs _ HBT.out HL.out hm HX.out HF.out).mono ?_
    rw [hp]
    rintro e w1 ⟨rfl, hb1⟩
    go_wp2
    go_ret2
    exact ⟨by rw [Q.out]; rfl, hbw.trans (hb1.mono hbw.size)⟩
  obtain ⟨h30, hh⟩ := port_hold hp
  have HH := Lib.hid hh; clear hh
  have hm30 : m ≤ 30 := by have := HL.out; omega
  by_cases hm0 : m = 0
  · have Q := Lib.hid (show largeP b xs = (0, 4) by have h1 := HL.out; unfold largeP; rw [if_pos hp, if_pos (by omega)])
    have hz : ((m : Int) == 0) = true := by simp [hm0]
    clear hm0
    go_enter Tryz.func41, Tryz.ntmps41
    go_wp2_with (refine wpList_load_agg rfl 28 _ rfl ⟨w.heap.size, 0, none⟩ rfl [.int .i64 b.first, .slice A n cap, .int .i64 b.rate] hcB0.out _ Tryz.underlying28 rfl Bas.size ?_)
    refine (spec_IsPortfolio_any b A n cap H m hcap xs _ HBT.out HL.out hm HX.out HF.out).mono ?_
    rw [hp]
    rintro e w1 ⟨rfl, hb1⟩
    go_wp2
    go_ret2
    exact ⟨by rw [Q.out]; rfl, hbw.trans (hb1.mono hbw.size)⟩
  have hpos : 0 < m := by omega
  have hz : ((m : Int) == 0) = false := by simp; omega
  have Q := Lib.hid (show largeP b xs = ((bestIx (resL b xs) m : Int), 0) by
    have h1 := HL.out
    unfold largeP
    rw [if_pos hp, if_neg (by omega), h1])
  go_enter Tryz.func41, Tryz.ntmps41
  go_wp2_with (refine wpList_load_agg rfl 28 _ rfl ⟨w.heap.size, 0, none⟩ rfl [.int .i64 b.first, .slice A n cap, .int .i64 b.rate] hcB0.out _ Tryz.underlying28 rfl Bas.size ?_)
  refine (spec_IsPortfolio_any b A n cap H m hcap xs _ HBT.out HL.out hm HX.out HF.out).mono ?_
  rw [hp]
  rintro e w1 ⟨rfl, hb1⟩
  have HB1 := Lib.hid (HB.out.below' hb1)
  have HBT1 := Lib.hid (HBT.out.past hb1)
  have HX1 := Lib.hid (HX.out.past hb1)
  have hb01 := hbw.trans (hb1.mono hbw.size)
  go_wp2
  go_loopw [6, 7] (fun s i wr => ∃ k : Nat, k ≤ m ∧ i = .int .i64 k ∧ s = .int .i64 (bestIx (resL b xs) k) ∧ Below w1.heap.size w1 wr) (fun _ i _ => m - (intOf i).toNat)
  case atStart => exact ⟨0, by omega, rfl, rfl, Below.refl _ _⟩
  case round =>
    obtain ⟨k, hk, rfl, rfl, hb⟩ := hrel
    by_cases hlt : k < m
    · obtain ⟨x, hx⟩ := get_of_lt (xs := xs) (k := k) (by rw [HL.out]; exact hlt)
      have hqm := best_lt (ys := resL b xs) hpos k (by omega)
      have HE := Lib.hid (bestIx_succ (resL b xs) k)
      obtain ⟨q, hq⟩ : ∃ q, bestIx (resL b xs) k = q := ⟨_, rfl⟩
      rw [hq] at hqm HE ⊢
      clear hq
      obtain ⟨z, hzq⟩ := get_of_lt (xs := xs) (k := q) (by rw [HL.out]; exact hqm)
      rw [gd_get (resL_get (b := b) hx), gd_get (resL_get (b := b) hzq)] at HE
      obtain ⟨ad, rfl, had, _, hc⟩ := (HX1.out.past hb).at' (holdingRows_get hx)
      obtain ⟨ad2, e2, _, _, hc2⟩ := (HX1.out.past hb).at' (holdingRows_get hzq)
      obtain rfl : ad = ad2 := by injection e2
      have Hx := Lib.hid (HH.out x (List.mem_of_getElem? hx)); clear hx
      have Hz := Lib.hid (HH.out z (List.mem_of_getElem? hzq)); clear hzq e2
      have HBr := Lib.hid (HB1.out.below' hb)
      have HBTr := Lib.hid (HBT1.out.past hb)
      have hcB := Lib.hid (Blk.agg_past (cs := [.int .i64 b.first, .slice A n cap, .int .i64 b.rate]) HBr.out 0 [.int .i64 b.first, .slice A n cap, .int .i64 b.rate] rfl)
      have hcH := Lib.hid (Past.cells' hc); clear hc
      have hcZ := Lib.hid (Past.cells' hc2); clear hc2
      by_cases hgt : resV b z < resV b x
      · have HE2 := Lib.hid (HE.out.trans (if_pos hgt))
        go_wp2
        refine wp_region_past (by kernel_rfl) (by kernel_rfl) ?_
        repeat (first | (go_big_quiet_want; (first | (first | (refine quiet_load_agg 28 _ rfl ⟨w.heap.size, 0, none⟩ rfl [.int .i64 b.first, .slice A n cap, .int .i64 b.rate] hcB.out _ Tryz.underlying28 rfl Bas.size ?_) | (refine quiet_load_agg 90 _ rfl (ad.add (k * 7)) rfl x.row hcH.out _ Tryz.underlying90 rfl Holding.size ?_) | (refine quiet_load_agg 90 _ rfl (ad.add (q * 7)) rfl z.row hcZ.out _ Tryz.underlying90 rfl Holding.size ?_))); go_simp; go_big_quiet_on) | go_big_quiet_step ((go_at_call 106; exact past_call (spec_l17Reserve_any b A n cap _ _ (HBTr.out.at_past _) (by first | exact Hx.out | exact Hz.out)))))
        refine wpQuiet_nil ?_
        rintro _ ⟨y, rfl⟩
        go_wp2
        go_roundw
        case rel => exact ⟨k + 1, by omega, by go_num, by rw [HE2.out], hb.trans (y.2.mono hb.size)⟩
        case measure => simp [intOf]; omega
      · have HE2 := Lib.hid (HE.out.trans (if_neg hgt))
        go_wp2
        refine wp_region_past (by kernel_rfl) (by kernel_rfl) ?_
        repeat (first | (go_big_quiet_want; (first | (first | (refine quiet_load_agg 28 _ rfl ⟨w.heap.size, 0, none⟩ rfl [.int .i64 b.first, .slice A n cap, .int .i64 b.rate] hcB.out _ Tryz.underlying28 rfl Bas.size ?_) | (refine quiet_load_agg 90 _ rfl (ad.add (k * 7)) rfl x.row hcH.out _ Tryz.underlying90 rfl Holding.size ?_) | (refine quiet_load_agg 90 _ rfl (ad.add (q * 7)) rfl z.row hcZ.out _ Tryz.underlying90 rfl Holding.size ?_))); go_simp; go_big_quiet_on) | go_big_quiet_step ((go_at_call 106; exact past_call (spec_l17Reserve_any b A n cap _ _ (HBTr.out.at_past _) (by first | exact Hx.out | exact Hz.out)))))
        refine wpQuiet_nil ?_
        rintro _ ⟨y, rfl⟩
        go_wp2
        go_roundw
        case rel => exact ⟨k + 1, by omega, by go_num, by rw [HE2.out], hb.trans (y.2.mono hb.size)⟩
        case measure => simp [intOf]; omega
    · have hkn : k = m := by omega
      subst hkn
      go_wp2
      go_ret2
      exact ⟨by rw [Q.out]; rfl, hb01.trans (hb.mono hb01.size)⟩


set_option maxHeartbeats 4000000 in
theorem impl_LargestHolding_any (b : Bas) (A : Option Addr) (n cap : Nat) (H : Option Addr) (m hcap : Nat) (xs : List Holding) (w : World) (hB : BasT w A n cap b) (hl : xs.length = m) (hm : m ≤ 1048576) (hX : Rd w w.heap.size H 7 (holdingRows xs)) (hf : ∀ x ∈ xs, x.fits) :
    Calls Tryz.prog 40 #[.agg #[.int .i64 b.first, .slice A n cap, .int .i64 b.rate], .slice H m hcap] w fun e w' => e = .returned (.tuple #[.int .i64 (largeP b xs).1, .int .i64 (largeP b xs).2]) ∧ Below w.heap.size w w' := by
  have hbw : Below w.heap.size w (w.alloc (.cells #[.int .i64 b.first, .slice A n cap, .int .i64 b.rate] 28)) := (Below.refl _ w).alloc (Nat.le_refl _) _
  have HB := Lib.hid (Blk.new w 28 #[.int .i64 b.first, .slice A n cap, .int .i64 b.rate])
  have HBT := Lib.hid (hB.past hbw); clear hB
  have HX := Lib.hid (hX.past hbw); clear hX
  have HL := Lib.hid hl; clear hl
  have HF := Lib.hid hf; clear hf
  have hcB0 := Lib.hid (Blk.agg (cs := [.int .i64 b.first, .slice A n cap, .int .i64 b.rate]) HB.out 0 [.int .i64 b.first, .slice A n cap, .int .i64 b.rate] rfl)
  cases hp : portB b xs
  · have Q := Lib.hid (show largeP b xs = (0, 1) by simp [largeP, hp])
    go_enter Tryz.func40, Tryz.ntmps40
    go_wp2_with (refine wpList_load_agg rfl 28 _ rfl ⟨w.heap.size, 0, none⟩ rfl [.int .i64 b.first, .slice A n cap, .int .i64 b.rate] hcB0.out _ Tryz.underlying28 rfl Bas.size ?_)
    refine (impl_IsPortfolio_any b A n cap H m hcap xs _ HBT.out HL.out hm HX.out HF.out).mono ?_
    rw [hp]
    rintro e w1 ⟨rfl, hb1⟩
    go_wp2
    go_ret2
    exact ⟨by rw [Q.out]; rfl, hbw.trans (hb1.mono hbw.size)⟩
  obtain ⟨h30, hh⟩ := port_hold hp
  have HH := Lib.hid hh; clear hh
  have hm30 : m ≤ 30 := by have := HL.out; omega
  by_cases hm0 : m = 0
  · have Q := Lib.hid (show largeP b xs = (0, 4) by have h1 := HL.out; unfold largeP; rw [if_pos hp, if_pos (by omega)])
    have hz : ((m : Int) == 0) = true := by simp [hm0]
    clear hm0
    go_enter Tryz.func40, Tryz.ntmps40
    go_wp2_with (refine wpList_load_agg rfl 28 _ rfl ⟨w.heap.size, 0, none⟩ rfl [.int .i64 b.first, .slice A n cap, .int .i64 b.rate] hcB0.out _ Tryz.underlying28 rfl Bas.size ?_)
    refine (impl_IsPortfolio_any b A n cap H m hcap xs _ HBT.out HL.out hm HX.out HF.out).mono ?_
    rw [hp]
    rintro e w1 ⟨rfl, hb1⟩
    go_wp2
    go_ret2
    exact ⟨by rw [Q.out]; rfl, hbw.trans (hb1.mono hbw.size)⟩
  have hpos : 0 < m := by omega
  have hz : ((m : Int) == 0) = false := by simp; omega
  have Q := Lib.hid (show largeP b xs = ((bestIx (resL b xs) m : Int), 0) by
    have h1 := HL.out
    unfold largeP
    rw [if_pos hp, if_neg (by omega), h1])
  go_enter Tryz.func40, Tryz.ntmps40
  go_wp2_with (refine wpList_load_agg rfl 28 _ rfl ⟨w.heap.size, 0, none⟩ rfl [.int .i64 b.first, .slice A n cap, .int .i64 b.rate] hcB0.out _ Tryz.underlying28 rfl Bas.size ?_)
  refine (impl_IsPortfolio_any b A n cap H m hcap xs _ HBT.out HL.out hm HX.out HF.out).mono ?_
  rw [hp]
  rintro e w1 ⟨rfl, hb1⟩
  have HB1 := Lib.hid (HB.out.below' hb1)
  have HBT1 := Lib.hid (HBT.out.past hb1)
  have HX1 := Lib.hid (HX.out.past hb1)
  have hb01 := hbw.trans (hb1.mono hbw.size)
  have hcB1 := Lib.hid (Blk.agg (cs := [.int .i64 b.first, .slice A n cap, .int .i64 b.rate]) HB1.out 0 [.int .i64 b.first, .slice A n cap, .int .i64 b.rate] rfl)
  go_wp2_with (refine wpList_load_agg rfl 28 _ rfl ⟨w.heap.size, 0, none⟩ rfl [.int .i64 b.first, .slice A n cap, .int .i64 b.rate] hcB1.out _ Tryz.underlying28 rfl Bas.size ?_)
  refine (impl_reserves_any b A n cap H m hcap xs _ HBT1.out HL.out hm30 HX1.out HH.out).mono ?_
  rintro e w2 ⟨A', c', rfl, hR, hb2⟩
  have HR := Lib.hid hR.rd; clear hR
  have hb02 := hb01.trans (hb2.mono hb01.size)
  have HLL := Lib.hid (show (resL b xs).length = m by rw [resL, List.length_map]; exact HL.out)
  go_wp2_with fail
  refine (maxInts_any A' m c' (resL b xs) _ HLL.out hpos hm HR.out).mono ?_
  rintro e w3 ⟨rfl, rfl⟩
  go_wp2_with fail
  refine (indexInts_any A' m c' (resL b xs) _ (bestIx (resL b xs) m) _ HLL.out hm HR.out (best_lt hpos m (Nat.le_refl _)) rfl (fun j hj => by have := best_first (ys := resL b xs) m j hj; omega)).mono ?_
  rintro e w4 ⟨rfl, rfl⟩
  go_wp2
  go_ret2
  exact ⟨by rw [Q.out]; rfl, hb02⟩

end Go.Proofs.YtbjdbpdgacfcpaaGreat
end

/- Reserves by the kind of the policies: plain laws. -/
section
namespace Go.Proofs.YtbjdbpdgacfcpaaGreat
open Go.RowKit Go.BigFrame

/-- what a holding gives to the kind j -/
def kindV (b : Bas) (j : Int) (h : Holding) : Int := if h.kind = j then resV b h else 0
def kindL (b : Bas) (j : Int) (xs : List Holding) : List Int := xs.map (kindV b j)
def kindAt (b : Bas) (xs : List Holding) (j : Int) (k : Nat) : Int := ((kindL b j xs).take k).sum
theorem kindAt_zero (b : Bas) (xs : List Holding) (j : Int) : kindAt b xs j 0 = 0 := by simp [kindAt]
theorem kindAt_succ {b : Bas} {xs : List Holding} {j : Int} {k : Nat} {x : Holding} (h : xs[k]? = some x) : kindAt b xs j (k + 1) = kindAt b xs j k + kindV b j x :=
  sum_snoc (show (kindL b j xs)[k]? = some (kindV b j x) by simp [kindL, h])
theorem kindAt_bound {b : Bas} {xs : List Holding} (hl : xs.length ≤ 30) (hh : ∀ x ∈ xs, holdB b x = true) (j : Int) (k : Nat) : -4000000000000000000 ≤ kindAt b xs j k ∧ kindAt b xs j k ≤ 4000000000000000000 :=
  (sums_of (n := 30) (hi := 100000001000000) (by omega) (by simpa [kindL] using hl) (fun v hv => by
    obtain ⟨x, hx, rfl⟩ := List.mem_map.1 hv
    have := resV_bound (hh x hx)
    unfold kindV
    split <;> omega) (by omega)).1 k
theorem hold_kind {b : Bas} {h : Holding} (H : holdB b h = true) : h.kind = 0 ∨ h.kind = 1 ∨ h.kind = 2 ∨ h.kind = 3 := by
  have P := pol_ok (hold_pol H)
  have h0 : 0 ≤ h.kind := P.kind0
  have h1 : h.kind ≤ 3 := P.kind1
  omega
def kindsP (b : Bas) (xs : List Holding) : List Int × Int :=
  if portB b xs = true then ([kindAt b xs 0 xs.length, kindAt b xs 1 xs.length, kindAt b xs 2 xs.length, kindAt b xs 3 xs.length], 0) else ([], 1)
theorem kinds_small (b : Bas) (xs : List Holding) : (kindsP b xs).1.length ≤ 1048576 := by unfold kindsP; split <;> simp
end Go.Proofs.YtbjdbpdgacfcpaaGreat
end
