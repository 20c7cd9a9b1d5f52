/- Parts of a proof, one after another: DrawP7, DrawX, DrawD, DrawE, DrawLaw. No condition. -/
import Derived.Test.YtbjdbpdgacfcpaaGreatK1
import Derived.Test.YtbjdbpdgacfcpaaGreatK16
import Derived.Deep.RegionLaw
/- Draws of scenarios, amounts, funds; draws of the arguments of laws on portfolios. -/
section
namespace Go.Proofs.YtbjdbpdgacfcpaaGreat
open Go.RowKit Go.BigFrame

theorem Res.low {w : World} {B t sz n cap : Nat} {A : Option Addr} {rows : List (List Value)} (h : Res B w t sz A n cap rows) {Z : Nat} (hZ : Z < B) (i : Nat) (v : Value) : Res B (w.setCell ⟨Z, i, none⟩ v) t sz A n cap rows :=
  h.keep fun a ha => Below.heap_setCell _ _ _ _ (by have := (h.lt ha).1; show a ≠ Z; omega)
/-- a drawn basis, a drawn portfolio -/
structure PB (B : Nat) (w : World) (b : Bas) (A : Option Addr) (n c : Nat) (A2 : Option Addr) (k c2 : Nat) (xs : List Holding) : Prop where
  liv : Res B w 2 1 A n c (intRows b.lives)
  sm : BasSmall b n
  res : Res B w 90 7 A2 k c2 (holdingRows xs)
  len : k ≤ 100
  fits : ∀ x ∈ xs, x.fits
namespace PB
variable {K : Code} {g B : Nat} {w w' : World} {b : Bas} {A : Option Addr} {n c : Nat} {A2 : Option Addr} {k c2 : Nat} {xs : List Holding}
theorem nxx (h : PB B w b A n c A2 k c2 xs) (hN : Nx K g w w') (hB : g < B) : PB B w' b A n c A2 k c2 xs := { h with liv := h.liv.nx hN hB, res := h.res.nx hN hB }
theorem past (h : PB B w b A n c A2 k c2 xs) (hb : Below w.heap.size w w') : PB B w' b A n c A2 k c2 xs := { h with liv := h.liv.past hb, res := h.res.past hb }
theorem more {B' : Nat} (h : PB B w b A n c A2 k c2 xs) (hB : B' ≤ B) : PB B' w b A n c A2 k c2 xs := { h with liv := h.liv.more hB, res := h.res.more hB }
theorem low (h : PB B w b A n c A2 k c2 xs) {Z : Nat} (hZ : Z < B) (i : Nat) (v : Value) : PB B (w.setCell ⟨Z, i, none⟩ v) b A n c A2 k c2 xs := { h with liv := h.liv.low hZ i v, res := h.res.low hZ i v }
theorem xlen (h : PB B w b A n c A2 k c2 xs) : xs.length = k := by have := h.res.len; rwa [holdingRows_length] at this
theorem blen (h : PB B w b A n c A2 k c2 xs) : b.lives.length = n := by have := h.liv.len; rwa [intRows_length] at this
theorem basT (h : PB B w b A n c A2 k c2 xs) : BasT w A n c b := by
  have hl := h.blen
  refine BasT.of_res h.liv (by have := h.sm.len; omega) (fun x hx => ?_) ?_ ?_
  · have := h.sm.lives x hx; unfold In64; omega
  · have := h.sm.first; unfold In64; omega
  · have := h.sm.rate; unfold In64; omega
end PB
theorem spec_l17Draw_pb (K : Code) (hK : K.Ok) (g : Nat) (w0 : World) (w : World) (hT : Nx K g w0 w) :
    Calls Tryz.prog 73 #[.pointer (some ⟨g, 0, none⟩)] w fun e w' => ∃ (b : Bas) (A' : Option Addr) (n' c' : Nat) (A2 : Option Addr) (k c2 : Nat) (xs : List Holding), e = .returned (.tuple #[.agg #[.int .i64 b.first, .slice A' n' c', .int .i64 b.rate], .slice A2 k c2]) ∧ PB w0.heap.size w' b A' n' c' A2 k c2 xs ∧ Nx K g w0 w' := by
  refine (spec_l17Draw_any K hK g w0 w hT).mono ?_
  rintro e w3 ⟨b, A1, n1, c1, A2, k, c2, xs, rfl, h1, h2, h3, h4, h5, hT⟩
  exact ⟨b, A1, n1, c1, A2, k, c2, xs, rfl, ⟨h1, h2, h3, h4, h5⟩, hT⟩

set_option maxHeartbeats 2000000 in
theorem spec_l21DrawDeath_any (K : Code) (hK : K.Ok) (g : Nat) (w0 : World) (w : World) (hT : Nx K g w0 w) :
    Calls Tryz.prog 81 #[.pointer (some ⟨g, 0, none⟩)] w fun e w' => ∃ d : Int, e = .returned (.int .i64 d) ∧ (-501 ≤ d ∧ d ≤ 501) ∧ Nx K g w0 w' := by
  go_enter Tryz.func81, Tryz.ntmps81
  go_wp2_with (first | (go_at_call 102; refine (spec_l01Next_any K hK g _ _ _ (Nx.refl (Nx.src (by first | exact hT | exact hT.alloc _ | exact (hT.alloc _).alloc _ | exact hT.drew)))).mono ?_; rintro e w3 ⟨x, rfl, ⟨hx0, hx1⟩, hN⟩; have hT := Nx.trans (by first | exact hT | exact hT.alloc _ | exact (hT.alloc _).alloc _ | exact hT.drew) hN) | (go_at_call 80; refine (spec_l01Pick_new K hK g _ _ _ _ (by first | exact hT | exact hT.alloc _ | exact (hT.alloc _).alloc _ | exact hT.drew) (by rfl) (by decide) (by decide) (by rfl)).mono ?_; rintro e w3 ⟨x, rfl, hx, hT⟩; simp only [OneOf, Value.int.injEq, true_and, or_false] at hx))
  all_goals (go_ret; exact ⟨_, rfl, by omega, hT⟩)
set_option maxHeartbeats 2000000 in
theorem spec_l21DrawFund_any (K : Code) (hK : K.Ok) (g : Nat) (w0 : World) (w : World) (hT : Nx K g w0 w) :
    Calls Tryz.prog 105 #[.pointer (some ⟨g, 0, none⟩)] w fun e w' => ∃ d : Int, e = .returned (.int .i64 d) ∧ (-1 ≤ d ∧ d ≤ 1000000000001) ∧ Nx K g w0 w' := by
  go_enter Tryz.func105, Tryz.ntmps105
  go_wp2_with (first | (go_at_call 102; refine (spec_l01Next_any K hK g _ _ _ (Nx.refl (Nx.src (by first | exact hT | exact hT.alloc _ | exact (hT.alloc _).alloc _ | exact hT.drew)))).mono ?_; rintro e w3 ⟨x, rfl, ⟨hx0, hx1⟩, hN⟩; have hT := Nx.trans (by first | exact hT | exact hT.alloc _ | exact (hT.alloc _).alloc _ | exact hT.drew) hN) | (go_at_call 80; refine (spec_l01Pick_new K hK g _ _ _ _ (by first | exact hT | exact hT.alloc _ | exact (hT.alloc _).alloc _ | exact hT.drew) (by rfl) (by decide) (by decide) (by rfl)).mono ?_; rintro e w3 ⟨x, rfl, hx, hT⟩; simp only [OneOf, Value.int.injEq, true_and, or_false] at hx))
  all_goals (go_ret; exact ⟨_, rfl, by omega, hT⟩)
set_option maxHeartbeats 2000000 in
theorem spec_l19DrawAmount_any (K : Code) (hK : K.Ok) (g : Nat) (w0 : World) (w : World) (hT : Nx K g w0 w) :
    Calls Tryz.prog 130 #[.pointer (some ⟨g, 0, none⟩)] w fun e w' => ∃ d : Int, e = .returned (.int .i64 d) ∧ (-1 ≤ d ∧ d ≤ 1000000001) ∧ Nx K g w0 w' := by
  go_enter Tryz.func130, Tryz.ntmps130
  go_wp2_with (first | (go_at_call 102; refine (spec_l01Next_any K hK g _ _ _ (Nx.refl (Nx.src (by first | exact hT | exact hT.alloc _ | exact (hT.alloc _).alloc _ | exact hT.drew)))).mono ?_; rintro e w3 ⟨x, rfl, ⟨hx0, hx1⟩, hN⟩; have hT := Nx.trans (by first | exact hT | exact hT.alloc _ | exact (hT.alloc _).alloc _ | exact hT.drew) hN) | (go_at_call 80; refine (spec_l01Pick_new K hK g _ _ _ _ (by first | exact hT | exact hT.alloc _ | exact (hT.alloc _).alloc _ | exact hT.drew) (by rfl) (by decide) (by decide) (by rfl)).mono ?_; rintro e w3 ⟨x, rfl, hx, hT⟩; simp only [OneOf, Value.int.injEq, true_and, or_false] at hx))
  all_goals (go_ret; exact ⟨_, rfl, by omega, hT⟩)

/-- the boxes of l21Draw -/
structure S21 (K : Code) (g : Nat) (w W : World) (Gs : Nat) (r d : Int) : Prop where
  z : Blk W w.heap.size 31 #[.int .i64 0, .int .i64 0]
  s : Blk W Gs 31 #[.int .i64 r, .int .i64 d]
  nx : Nx K g w W
  gw : g < w.heap.size
  ws : w.heap.size < Gs
  hr : (-1000 ≤ r ∧ r ≤ 1000) ∧ (-1000 ≤ d ∧ d ≤ 1000)
theorem S21.nxx {K : Code} {g : Nat} {w W W' : World} {Gs : Nat} {r d : Int} (h : S21 K g w W Gs r d) (hN : Nx K g W W') : S21 K g w W' Gs r d := by
  have h1 := h.gw; have h2 := h.ws
  exact { h with z := h.z.nx hN (by omega), s := h.s.nx hN (by omega), nx := h.nx.trans hN }
theorem S21.src {K : Code} {g : Nat} {w W : World} {Gs : Nat} {r d : Int} (h : S21 K g w W Gs r d) : Src K g W := h.nx.src
theorem S21.put {K : Code} {g : Nat} {w W : World} {Gs : Nat} {r d : Int} (h : S21 K g w W Gs r d) (x : Int) (hx : -1000 ≤ x ∧ x ≤ 1000) : S21 K g w (W.setCell ⟨Gs, 0, none⟩ (.int .i64 x)) Gs x d := by
  have h1 := h.gw; have h2 := h.ws
  exact ⟨h.z.far (by show w.heap.size ≠ Gs; omega) _, by simpa using h.s.set_ 0 (.int .i64 x), h.nx.kept h1 (Nat.le_refl _) ((Below.refl _ _).setCell (p := ⟨Gs, 0, none⟩) (by show w.heap.size ≤ Gs; omega) _), h1, h2, hx, h.hr.2⟩
set_option maxHeartbeats 4000000 in
theorem spec_l21Draw_any (K : Code) (hK : K.Ok) (g : Nat) (w0 : World) (w : World) (hT : Nx K g w0 w) :
    Calls Tryz.prog 74 #[.pointer (some ⟨g, 0, none⟩)] w fun e w' => ∃ r d : Int, e = .returned (.agg #[.int .i64 r, .int .i64 d]) ∧ ((-1000 ≤ r ∧ r ≤ 1000) ∧ (-1000 ≤ d ∧ d ≤ 1000)) ∧ Nx K g w0 w' := by
  have HT0 := Lib.hid hT
  have hgw := hT.src.lt
  have hOw := (Nx.refl hT.src).alloc (.cells #[.int .i64 0, .int .i64 0] 31)
  have HZB := Lib.hid (Blk.new w 31 #[.int .i64 0, .int .i64 0])
  clear hT
  have hT := Nx.refl hOw.src
  go_enter Tryz.func74, Tryz.ntmps74
  go_wp2_with fail
  have HSZ := Lib.hid (show w.heap.size < (w.alloc (.cells #[.int .i64 0, .int .i64 0] 31)).heap.size by simp)
  generalize w.alloc (.cells #[.int .i64 0, .int .i64 0] 31) = Wa at hT hOw HZB HSZ ⊢
  go_upto_region 2 with (first | ((go_at_call 102; refine (spec_l01Next_any K hK g _ _ _ (Nx.refl (Nx.src (by first | exact hT | exact hT.alloc _ | exact (hT.alloc _).alloc _ | exact hT.drew)))).mono ?_; rintro e w3 ⟨x, rfl, ⟨hx0, hx1⟩, hN⟩; have hT := Nx.trans (by first | exact hT | exact hT.alloc _ | exact (hT.alloc _).alloc _ | exact hT.drew) hN); rename Int => q0; have hq0 : 0 ≤ q0 ∧ q0 ≤ 40 := by omega) | ((go_at_call 80; refine (spec_l01Pick_new K hK g _ _ _ _ (by first | exact hT | exact hT.alloc _ | exact (hT.alloc _).alloc _ | exact hT.drew) (by rfl) (by decide) (by decide) (by rfl)).mono ?_; rintro e w3 ⟨x, rfl, hx, hT⟩; simp only [OneOf, Value.int.injEq, true_and, or_false] at hx); first | (have hq9 := hq2; rename Int => q4) | (rename Int => q3)) | (go_at_call 81; refine (spec_l21DrawDeath_any K hK g _ _ (by first | exact hT | exact hT.alloc _ | exact (hT.alloc _).alloc _ | exact hT.drew) ).mono ?_; rintro e w3 ⟨q2, rfl, hq2, hT⟩))
  have HQ := Lib.hid (show S21 K g w (w3.alloc (.cells #[.int .i64 q3, .int .i64 q4] 31)) w3.heap.size q3 q4 from by
    have h1 := HSZ.out
    have h2 := hT.size
    exact ⟨(HZB.out.nx hT (by omega)).alloc _, Blk.new w3 _ _, (hOw.trans hT).alloc _, hgw, by omega, by omega, by omega⟩)
  clear HZB hOw hN hT hx0 hx1 hq0
  clear hx
  generalize w3.alloc (.cells #[.int .i64 q3, .int .i64 q4] 31) = W5 at HQ ⊢
  generalize w3.heap.size = Gs at HQ ⊢
  have hT := Nx.refl HQ.out.src
  go_upto_if 18 with (go_at_call 102; refine (spec_l01Next_any K hK g _ _ _ (by first | exact hT | exact hT.alloc _ | exact (hT.alloc _).alloc _ | exact hT.drew)).mono ?_; rintro e w3 ⟨y, rfl, ⟨hy0, hy1⟩, hTy⟩; have HQ := Lib.hid (HQ.out.nxx hTy); clear hTy; have hT := Nx.refl HQ.out.src)
  go_cut [] (fun wx => ∃ r d : Int, Hid (S21 K g w wx Gs r d))
  case first =>
    go_wp2_with ((go_at_call 80; refine (spec_l01Pick_new K hK g _ _ _ _ (by first | exact hT | exact hT.alloc _ | exact (hT.alloc _).alloc _ | exact hT.drew) (by rfl) (by decide) (by decide) (by rfl)).mono ?_; rintro e w3 ⟨z, rfl, hz, hTy⟩; simp only [OneOf, Value.int.injEq, true_and, or_false] at hz; have HQ := Lib.hid (HQ.out.nxx hTy); clear hTy; have hT := Nx.refl HQ.out.src); have z4 := HQ.out.s.frozen 0; have f4 := HQ.out.s.cell 0)
    · go_meet
      case rel => exact ⟨_, _, Lib.hid (HQ.out.put z (by omega))⟩
    · go_meet
      case rel => exact ⟨_, _, HQ⟩
  case rest =>
    clear HQ hT
    obtain ⟨r, d, HQ⟩ := hcut
    have hcS := Lib.hid (Blk.agg (cs := [.int .i64 r, .int .i64 d]) HQ.out.s 0 [.int .i64 r, .int .i64 d] rfl)
    have zc0 : wc.cell? ⟨w.heap.size, 0, none⟩ = some (.int .i64 0) := HQ.out.z.cell 0
    have zf0 : wc.frozen? ⟨w.heap.size, 0, none⟩ = false := HQ.out.z.frozen 0
    have zc1 : wc.cell? ⟨w.heap.size, 1, none⟩ = some (.int .i64 0) := HQ.out.z.cell 1
    have zf1 : wc.frozen? ⟨w.heap.size, 1, none⟩ = false := HQ.out.z.frozen 1
    go_wp2_with (refine wpList_load_agg rfl 31 _ rfl ⟨Gs, 0, none⟩ rfl [.int .i64 r, .int .i64 d] hcS.out _ Tryz.underlying31 rfl Scenario.size ?_)
    have hz9 : Blk ((wc.setCell ⟨w.heap.size, 0, none⟩ (.int .i64 r)).setCell ⟨w.heap.size, 1, none⟩ (.int .i64 d)) w.heap.size 31 #[.int .i64 r, .int .i64 d] := by simpa using (HQ.out.z.set_ 0 (.int .i64 r)).set_ 1 (.int .i64 d)
    have hb9 := ((Below.refl w.heap.size wc).setCell (p := ⟨w.heap.size, 0, none⟩) (Nat.le_refl _) (.int .i64 r)).setCell (p := ⟨w.heap.size, 1, none⟩) (Nat.le_refl _) (.int .i64 d)
    generalize (wc.setCell ⟨w.heap.size, 0, none⟩ (.int .i64 r)).setCell ⟨w.heap.size, 1, none⟩ (.int .i64 d) = W9 at hz9 hb9 ⊢
    have r0 : W9.cell? ⟨w.heap.size, 0, none⟩ = some (.int .i64 r) := hz9.cell 0
    have r1 : W9.cell? ⟨w.heap.size, 1, none⟩ = some (.int .i64 d) := hz9.cell 1
    refine bodyPost_ret (v := .agg #[.int .i64 r, .int .i64 d]) (by simp [results, Tryz.results74, go_sem, r0, r1]) rfl ?_
    exact ⟨r, d, rfl, HQ.out.hr, HT0.out.trans (HQ.out.nx.kept HQ.out.gw (Nat.le_refl _) hb9)⟩
end Go.Proofs.YtbjdbpdgacfcpaaGreat
end

/- Draws of the arguments of laws on portfolios (printed by drawx.py). -/
section
namespace Go.Proofs.YtbjdbpdgacfcpaaGreat
open Go.RowKit Go.BigFrame

set_option maxRecDepth 100000 in
set_option maxHeartbeats 8000000 in
theorem spec_DrawRequiredReserve_any (K : Code) (hK : K.Ok) (w : World) (hX : Rd w w.heap.size K.A 1 (byteRows K.bs)) :
    Calls Tryz.prog 9 #[.slice K.A K.n K.c] w fun e w' => ∃ (b : Bas) (A : Option Addr) (n c : Nat) (A2 : Option Addr) (k c2 : Nat) (xs : List Holding) (r0 d0 : Int), e = .returned (.tuple #[.agg #[.int .i64 b.first, .slice A n c, .int .i64 b.rate], .slice A2 k c2, .agg #[.int .i64 r0, .int .i64 d0]]) ∧ PB w.heap.size w' b A n c A2 k c2 xs ∧ ((-1000 ≤ r0 ∧ r0 ≤ 1000) ∧ (-1000 ≤ d0 ∧ d0 ≤ 1000)) ∧ Below w.heap.size w w' := by
  have hb0 : Below w.heap.size w ((w.alloc (.cells #[.int .i64 0, .slice none 0 0, .int .i64 0] 28)).alloc (.cells #[.int .i64 0, .int .i64 0] 31)) := ((Below.refl _ w).alloc (by first | exact Nat.le_refl _ | simp) _).alloc (by first | exact Nat.le_refl _ | simp) _
  have HZ0 := Lib.hid ((Blk.new w 28 #[.int .i64 0, .slice none 0 0, .int .i64 0]).alloc (.cells #[.int .i64 0, .int .i64 0] 31))
  have HZ1 := Lib.hid (Blk.new (w.alloc (.cells #[.int .i64 0, .slice none 0 0, .int .i64 0] 28)) 31 #[.int .i64 0, .int .i64 0])
  simp only [World.size_alloc] at HZ1
  have hX := hX.past hb0
  have HBW := Lib.hid hb0; clear hb0
  have HSZ := Lib.hid (show w.heap.size + 2 ≤ ((w.alloc (.cells #[.int .i64 0, .slice none 0 0, .int .i64 0] 28)).alloc (.cells #[.int .i64 0, .int .i64 0] 31)).heap.size by simp)
  go_enter Tryz.func9, Tryz.ntmps9
  go_wp2_with fail
  generalize ((w.alloc (.cells #[.int .i64 0, .slice none 0 0, .int .i64 0] 28)).alloc (.cells #[.int .i64 0, .int .i64 0] 31)) = Wa at HZ0 HZ1 HBW HSZ hX ⊢
  refine (spec_l01From_any K hK _ hX).mono ?_
  rintro e w1 ⟨g, rfl, hg, hb, hS⟩
  clear hX
  have hT := Nx.refl hS
  go_upto_region 3 with (go_at_call 73; refine (spec_l17Draw_pb K hK g _ _ hT).mono ?_; rintro e w2 ⟨b, A1, n1, c1, A2, k, c2, xs, rfl, hP, hT⟩)
  have hsz := HSZ.out
  have hg1 : g < w1.heap.size := hS.lt
  have h12 := hT.size
  have hn0 : w.heap.size ≠ g := by omega
  have hn1 : w.heap.size + 1 ≠ g := by omega
  have hbl : Below w.heap.size w (w2.alloc (.cells #[.int .i64 b.first, .slice A1 n1 c1, .int .i64 b.rate] 28)) := (HBW.out.trans ((hb.mono (by omega)).trans (hT.below.mono (by omega)))).alloc (by have := HBW.out.size; have := hb.size; omega) _
  have HBW := Lib.hid hbl; clear hbl
  have HZ0 := Lib.hid (((HZ0.out.below' hb).nx hT hn0).alloc (.cells #[.int .i64 b.first, .slice A1 n1 c1, .int .i64 b.rate] 28))
  have HZ1 := Lib.hid (((HZ1.out.below' hb).nx hT hn1).alloc (.cells #[.int .i64 b.first, .slice A1 n1 c1, .int .i64 b.rate] 28))
  have HP := Lib.hid (hP.past ((Below.refl w2.heap.size w2).alloc (Nat.le_refl _) (.cells #[.int .i64 b.first, .slice A1 n1 c1, .int .i64 b.rate] 28)))
  have HB := Lib.hid (Blk.new w2 28 #[.int .i64 b.first, .slice A1 n1 c1, .int .i64 b.rate])
  have hS2 := (hT.alloc (.cells #[.int .i64 b.first, .slice A1 n1 c1, .int .i64 b.rate] 28)).src
  have hnb : w2.heap.size ≠ g := by omega
  have hzb : w.heap.size ≠ w2.heap.size := by omega
  clear hP hT hS hb
  generalize w2.alloc (.cells #[.int .i64 b.first, .slice A1 n1 c1, .int .i64 b.rate] 28) = W at HBW HZ0 HZ1 HP HB hS2 ⊢
  generalize w2.heap.size = Gb at HB hnb hzb h12 ⊢
  have HS2 := Lib.hid hS2; clear hS2
  have HN := Lib.hid (Nx.refl HS2.out)
  have hT := HN.out
  have b0 : W.cell? ⟨Gb, 0, none⟩ = some (.int .i64 b.first) := HB.out.cell 0
  have b1 : W.cell? ⟨Gb, 1, none⟩ = some (.slice A1 n1 c1) := HB.out.cell 1
  have b2 : W.cell? ⟨Gb, 2, none⟩ = some (.int .i64 b.rate) := HB.out.cell 2
  go_region_law (go_simp; go_at_call 74; refine (spec_l21Draw_any K hK g _ _ (by first | exact hT | exact hT.drew)).mono ?_; rintro e w3 ⟨r0, d0, rfl, hx0, hT⟩; have b0 : w3.cell? ⟨Gb, 0, none⟩ = some (.int .i64 b.first) := (HB.out.nx hT hnb).cell 0; have b1 : w3.cell? ⟨Gb, 1, none⟩ = some (.slice A1 n1 c1) := (HB.out.nx hT hnb).cell 1; have b2 : w3.cell? ⟨Gb, 2, none⟩ = some (.int .i64 b.rate) := (HB.out.nx hT hnb).cell 2; have zc0 : w3.cell? ⟨w.heap.size, 0, none⟩ = some (.int .i64 0) := (HZ0.out.nx hT hn0).cell 0; have zf0 : w3.frozen? ⟨w.heap.size, 0, none⟩ = false := (HZ0.out.nx hT hn0).frozen 0; have zc1 : w3.cell? ⟨w.heap.size, 1, none⟩ = some (.slice none 0 0) := (HZ0.out.nx hT hn0).cell 1; have zf1 : w3.frozen? ⟨w.heap.size, 1, none⟩ = false := (HZ0.out.nx hT hn0).frozen 1; have zc2 : w3.cell? ⟨w.heap.size, 2, none⟩ = some (.int .i64 0) := (HZ0.out.nx hT hn0).cell 2; have zf2 : w3.frozen? ⟨w.heap.size, 2, none⟩ = false := (HZ0.out.nx hT hn0).frozen 2; have yc0 : w3.cell? ⟨w.heap.size + 1, 0, none⟩ = some (.int .i64 0) := (HZ1.out.nx hT hn1).cell 0; have yf0 : w3.frozen? ⟨w.heap.size + 1, 0, none⟩ = false := (HZ1.out.nx hT hn1).frozen 0; have yc1 : w3.cell? ⟨w.heap.size + 1, 1, none⟩ = some (.int .i64 0) := (HZ1.out.nx hT hn1).cell 1; have yf1 : w3.frozen? ⟨w.heap.size + 1, 1, none⟩ = false := (HZ1.out.nx hT hn1).frozen 1)
  all_goals
    have hz9 : Blk (((((w3.setCell ⟨w.heap.size, 0, none⟩ (.int .i64 b.first)).setCell ⟨w.heap.size, 1, none⟩ (.slice A1 n1 c1)).setCell ⟨w.heap.size, 2, none⟩ (.int .i64 b.rate)).setCell ⟨w.heap.size + 1, 0, none⟩ (.int .i64 r0)).setCell ⟨w.heap.size + 1, 1, none⟩ (.int .i64 d0)) w.heap.size 28 #[.int .i64 b.first, .slice A1 n1 c1, .int .i64 b.rate] := by simpa using ((((((HZ0.out.nx hT hn0).set_ 0 (.int .i64 b.first)).set_ 1 (.slice A1 n1 c1)).set_ 2 (.int .i64 b.rate)).far (by show w.heap.size ≠ w.heap.size + 1; omega) (.int .i64 r0)).far (by show w.heap.size ≠ w.heap.size + 1; omega) (.int .i64 d0))
    have hy9 : Blk (((((w3.setCell ⟨w.heap.size, 0, none⟩ (.int .i64 b.first)).setCell ⟨w.heap.size, 1, none⟩ (.slice A1 n1 c1)).setCell ⟨w.heap.size, 2, none⟩ (.int .i64 b.rate)).setCell ⟨w.heap.size + 1, 0, none⟩ (.int .i64 r0)).setCell ⟨w.heap.size + 1, 1, none⟩ (.int .i64 d0)) (w.heap.size + 1) 31 #[.int .i64 r0, .int .i64 d0] := by simpa using ((((((HZ1.out.nx hT hn1).far (by show w.heap.size + 1 ≠ w.heap.size; omega) (.int .i64 b.first)).far (by show w.heap.size + 1 ≠ w.heap.size; omega) (.slice A1 n1 c1)).far (by show w.heap.size + 1 ≠ w.heap.size; omega) (.int .i64 b.rate)).set_ 0 (.int .i64 r0)).set_ 1 (.int .i64 d0))
    have hb9 : Below w.heap.size w (((((w3.setCell ⟨w.heap.size, 0, none⟩ (.int .i64 b.first)).setCell ⟨w.heap.size, 1, none⟩ (.slice A1 n1 c1)).setCell ⟨w.heap.size, 2, none⟩ (.int .i64 b.rate)).setCell ⟨w.heap.size + 1, 0, none⟩ (.int .i64 r0)).setCell ⟨w.heap.size + 1, 1, none⟩ (.int .i64 d0)) := ((((((HBW.out.trans (hT.below.mono (by omega))).setCell (p := ⟨w.heap.size, 0, none⟩) (by show w.heap.size ≤ w.heap.size; omega) (.int .i64 b.first)).setCell (p := ⟨w.heap.size, 1, none⟩) (by show w.heap.size ≤ w.heap.size; omega) (.slice A1 n1 c1)).setCell (p := ⟨w.heap.size, 2, none⟩) (by show w.heap.size ≤ w.heap.size; omega) (.int .i64 b.rate)).setCell (p := ⟨w.heap.size + 1, 0, none⟩) (by show w.heap.size ≤ w.heap.size + 1; omega) (.int .i64 r0)).setCell (p := ⟨w.heap.size + 1, 1, none⟩) (by show w.heap.size ≤ w.heap.size + 1; omega) (.int .i64 d0))
    have hp9 : PB w1.heap.size (((((w3.setCell ⟨w.heap.size, 0, none⟩ (.int .i64 b.first)).setCell ⟨w.heap.size, 1, none⟩ (.slice A1 n1 c1)).setCell ⟨w.heap.size, 2, none⟩ (.int .i64 b.rate)).setCell ⟨w.heap.size + 1, 0, none⟩ (.int .i64 r0)).setCell ⟨w.heap.size + 1, 1, none⟩ (.int .i64 d0)) b A1 n1 c1 A2 k c2 xs := ((((((HP.out.nxx hT hg1).low (show w.heap.size < w1.heap.size by omega) 0 (.int .i64 b.first)).low (show w.heap.size < w1.heap.size by omega) 1 (.slice A1 n1 c1)).low (show w.heap.size < w1.heap.size by omega) 2 (.int .i64 b.rate)).low (show w.heap.size + 1 < w1.heap.size by omega) 0 (.int .i64 r0)).low (show w.heap.size + 1 < w1.heap.size by omega) 1 (.int .i64 d0))
    clear zc0 zf0 zc1 zf1 zc2 zf2 yc0 yf0 yc1 yf1
    generalize (((((w3.setCell ⟨w.heap.size, 0, none⟩ (.int .i64 b.first)).setCell ⟨w.heap.size, 1, none⟩ (.slice A1 n1 c1)).setCell ⟨w.heap.size, 2, none⟩ (.int .i64 b.rate)).setCell ⟨w.heap.size + 1, 0, none⟩ (.int .i64 r0)).setCell ⟨w.heap.size + 1, 1, none⟩ (.int .i64 d0)) = W9 at hz9 hy9 hb9 hp9 ⊢
    have q0 : W9.cell? ⟨w.heap.size, 0, none⟩ = some (.int .i64 b.first) := hz9.cell 0
    have q1 : W9.cell? ⟨w.heap.size, 1, none⟩ = some (.slice A1 n1 c1) := hz9.cell 1
    have q2 : W9.cell? ⟨w.heap.size, 2, none⟩ = some (.int .i64 b.rate) := hz9.cell 2
    have p0 : W9.cell? ⟨w.heap.size + 1, 0, none⟩ = some (.int .i64 r0) := hy9.cell 0
    have p1 : W9.cell? ⟨w.heap.size + 1, 1, none⟩ = some (.int .i64 d0) := hy9.cell 1
    have HP9 := Lib.hid hp9; have HB9 := Lib.hid hb9; clear hp9 hb9
    go_wp2_with fail
    refine bodyPost_ret (v := .tuple #[.agg #[.int .i64 b.first, .slice A1 n1 c1, .int .i64 b.rate], .slice A2 k c2, .agg #[.int .i64 r0, .int .i64 d0]]) (by simp [results, Tryz.results9, go_sem, q0, q1, q2, p0, p1]) rfl ?_
    exact ⟨b, A1, n1, c1, A2, k, c2, xs, r0, d0, rfl, HP9.out.more (by omega), hx0, HB9.out⟩
set_option maxRecDepth 100000 in
set_option maxHeartbeats 8000000 in
theorem spec_DrawSolvencyRate_any (K : Code) (hK : K.Ok) (w : World) (hX : Rd w w.heap.size K.A 1 (byteRows K.bs)) :
    Calls Tryz.prog 99 #[.slice K.A K.n K.c] w fun e w' => ∃ (b : Bas) (A : Option Addr) (n c : Nat) (A2 : Option Addr) (k c2 : Nat) (xs : List Holding) (r0 d0 x1 : Int), e = .returned (.tuple #[.agg #[.int .i64 b.first, .slice A n c, .int .i64 b.rate], .slice A2 k c2, .agg #[.int .i64 r0, .int .i64 d0], .int .i64 x1]) ∧ PB w.heap.size w' b A n c A2 k c2 xs ∧ ((-1000 ≤ r0 ∧ r0 ≤ 1000) ∧ (-1000 ≤ d0 ∧ d0 ≤ 1000)) ∧ (-1 ≤ x1 ∧ x1 ≤ 1000000000001) ∧ Below w.heap.size w w' := by
  have hb0 : Below w.heap.size w ((w.alloc (.cells #[.int .i64 0, .slice none 0 0, .int .i64 0] 28)).alloc (.cells #[.int .i64 0, .int .i64 0] 31)) := ((Below.refl _ w).alloc (by first | exact Nat.le_refl _ | simp) _).alloc (by first | exact Nat.le_refl _ | simp) _
  have HZ0 := Lib.hid ((Blk.new w 28 #[.int .i64 0, .slice none 0 0, .int .i64 0]).alloc (.cells #[.int .i64 0, .int .i64 0] 31))
  have HZ1 := Lib.hid (Blk.new (w.alloc (.cells #[.int .i64 0, .slice none 0 0, .int .i64 0] 28)) 31 #[.int .i64 0, .int .i64 0])
  simp only [World.size_alloc] at HZ1
  have hX := hX.past hb0
  have HBW := Lib.hid hb0; clear hb0
  have HSZ := Lib.hid (show w.heap.size + 2 ≤ ((w.alloc (.cells #[.int .i64 0, .slice none 0 0, .int .i64 0] 28)).alloc (.cells #[.int .i64 0, .int .i64 0] 31)).heap.size by simp)
  go_enter Tryz.func99, Tryz.ntmps99
  go_wp2_with fail
  generalize ((w.alloc (.cells #[.int .i64 0, .slice none 0 0, .int .i64 0] 28)).alloc (.cells #[.int .i64 0, .int .i64 0] 31)) = Wa at HZ0 HZ1 HBW HSZ hX ⊢
  refine (spec_l01From_any K hK _ hX).mono ?_
  rintro e w1 ⟨g, rfl, hg, hb, hS⟩
  clear hX
  have hT := Nx.refl hS
  go_upto_region 3 with (go_at_call 73; refine (spec_l17Draw_pb K hK g _ _ hT).mono ?_; rintro e w2 ⟨b, A1, n1, c1, A2, k, c2, xs, rfl, hP, hT⟩)
  have hsz := HSZ.out
  have hg1 : g < w1.heap.size := hS.lt
  have h12 := hT.size
  have hn0 : w.heap.size ≠ g := by omega
  have hn1 : w.heap.size + 1 ≠ g := by omega
  have hbl : Below w.heap.size w (w2.alloc (.cells #[.int .i64 b.first, .slice A1 n1 c1, .int .i64 b.rate] 28)) := (HBW.out.trans ((hb.mono (by omega)).trans (hT.below.mono (by omega)))).alloc (by have := HBW.out.size; have := hb.size; omega) _
  have HBW := Lib.hid hbl; clear hbl
  have HZ0 := Lib.hid (((HZ0.out.below' hb).nx hT hn0).alloc (.cells #[.int .i64 b.first, .slice A1 n1 c1, .int .i64 b.rate] 28))
  have HZ1 := Lib.hid (((HZ1.out.below' hb).nx hT hn1).alloc (.cells #[.int .i64 b.first, .slice A1 n1 c1, .int .i64 b.rate] 28))
  have HP := Lib.hid (hP.past ((Below.refl w2.heap.size w2).alloc (Nat.le_refl _) (.cells #[.int .i64 b.first, .slice A1 n1 c1, .int .i64 b.rate] 28)))
  have HB := Lib.hid (Blk.new w2 28 #[.int .i64 b.first, .slice A1 n1 c1, .int .i64 b.rate])
  have hS2 := (hT.alloc (.cells #[.int .i64 b.first, .slice A1 n1 c1, .int .i64 b.rate] 28)).src
  have hnb : w2.heap.size ≠ g := by omega
  have hzb : w.heap.size ≠ w2.heap.size := by omega
  clear hP hT hS hb
  generalize w2.alloc (.cells #[.int .i64 b.first, .slice A1 n1 c1, .int .i64 b.rate] 28) = W at HBW HZ0 HZ1 HP HB hS2 ⊢
  generalize w2.heap.size = Gb at HB hnb hzb h12 ⊢
  have HS2 := Lib.hid hS2; clear hS2
  have HN := Lib.hid (Nx.refl HS2.out)
  have hT := HN.out
  have b0 : W.cell? ⟨Gb, 0, none⟩ = some (.int .i64 b.first) := HB.out.cell 0
  have b1 : W.cell? ⟨Gb, 1, none⟩ = some (.slice A1 n1 c1) := HB.out.cell 1
  have b2 : W.cell? ⟨Gb, 2, none⟩ = some (.int .i64 b.rate) := HB.out.cell 2
  go_region_law (first | (go_simp; go_at_call 74; refine (spec_l21Draw_any K hK g _ _ (by first | exact hT | exact hT.drew)).mono ?_; rintro e w3 ⟨r0, d0, rfl, hx0, hT⟩; have b0 : w3.cell? ⟨Gb, 0, none⟩ = some (.int .i64 b.first) := (HB.out.nx hT hnb).cell 0; have b1 : w3.cell? ⟨Gb, 1, none⟩ = some (.slice A1 n1 c1) := (HB.out.nx hT hnb).cell 1; have b2 : w3.cell? ⟨Gb, 2, none⟩ = some (.int .i64 b.rate) := (HB.out.nx hT hnb).cell 2; have zc0 : w3.cell? ⟨w.heap.size, 0, none⟩ = some (.int .i64 0) := (HZ0.out.nx hT hn0).cell 0; have zf0 : w3.frozen? ⟨w.heap.size, 0, none⟩ = false := (HZ0.out.nx hT hn0).frozen 0; have zc1 : w3.cell? ⟨w.heap.size, 1, none⟩ = some (.slice none 0 0) := (HZ0.out.nx hT hn0).cell 1; have zf1 : w3.frozen? ⟨w.heap.size, 1, none⟩ = false := (HZ0.out.nx hT hn0).frozen 1; have zc2 : w3.cell? ⟨w.heap.size, 2, none⟩ = some (.int .i64 0) := (HZ0.out.nx hT hn0).cell 2; have zf2 : w3.frozen? ⟨w.heap.size, 2, none⟩ = false := (HZ0.out.nx hT hn0).frozen 2; have yc0 : w3.cell? ⟨w.heap.size + 1, 0, none⟩ = some (.int .i64 0) := (HZ1.out.nx hT hn1).cell 0; have yf0 : w3.frozen? ⟨w.heap.size + 1, 0, none⟩ = false := (HZ1.out.nx hT hn1).frozen 0; have yc1 : w3.cell? ⟨w.heap.size + 1, 1, none⟩ = some (.int .i64 0) := (HZ1.out.nx hT hn1).cell 1; have yf1 : w3.frozen? ⟨w.heap.size + 1, 1, none⟩ = false := (HZ1.out.nx hT hn1).frozen 1) | (go_simp; go_at_call 105; refine (spec_l21DrawFund_any K hK g _ _ (by first | exact hT | exact hT.drew)).mono ?_; rintro e w3 ⟨x1, rfl, hx1, hT⟩; have b0 : w3.cell? ⟨Gb, 0, none⟩ = some (.int .i64 b.first) := (HB.out.nx hT hnb).cell 0; have b1 : w3.cell? ⟨Gb, 1, none⟩ = some (.slice A1 n1 c1) := (HB.out.nx hT hnb).cell 1; have b2 : w3.cell? ⟨Gb, 2, none⟩ = some (.int .i64 b.rate) := (HB.out.nx hT hnb).cell 2; have zc0 : w3.cell? ⟨w.heap.size, 0, none⟩ = some (.int .i64 0) := (HZ0.out.nx hT hn0).cell 0; have zf0 : w3.frozen? ⟨w.heap.size, 0, none⟩ = false := (HZ0.out.nx hT hn0).frozen 0; have zc1 : w3.cell? ⟨w.heap.size, 1, none⟩ = some (.slice none 0 0) := (HZ0.out.nx hT hn0).cell 1; have zf1 : w3.frozen? ⟨w.heap.size, 1, none⟩ = false := (HZ0.out.nx hT hn0).frozen 1; have zc2 : w3.cell? ⟨w.heap.size, 2, none⟩ = some (.int .i64 0) := (HZ0.out.nx hT hn0).cell 2; have zf2 : w3.frozen? ⟨w.heap.size, 2, none⟩ = false := (HZ0.out.nx hT hn0).frozen 2; have yc0 : w3.cell? ⟨w.heap.size + 1, 0, none⟩ = some (.int .i64 0) := (HZ1.out.nx hT hn1).cell 0; have yf0 : w3.frozen? ⟨w.heap.size + 1, 0, none⟩ = false := (HZ1.out.nx hT hn1).frozen 0; have yc1 : w3.cell? ⟨w.heap.size + 1, 1, none⟩ = some (.int .i64 0) := (HZ1.out.nx hT hn1).cell 1; have yf1 : w3.frozen? ⟨w.heap.size + 1, 1, none⟩ = false := (HZ1.out.nx hT hn1).frozen 1))
  all_goals
    have hz9 : Blk (((((w3.setCell ⟨w.heap.size, 0, none⟩ (.int .i64 b.first)).setCell ⟨w.heap.size, 1, none⟩ (.slice A1 n1 c1)).setCell ⟨w.heap.size, 2, none⟩ (.int .i64 b.rate)).setCell ⟨w.heap.size + 1, 0, none⟩ (.int .i64 r0)).setCell ⟨w.heap.size + 1, 1, none⟩ (.int .i64 d0)) w.heap.size 28 #[.int .i64 b.first, .slice A1 n1 c1, .int .i64 b.rate] := by simpa using ((((((HZ0.out.nx hT hn0).set_ 0 (.int .i64 b.first)).set_ 1 (.slice A1 n1 c1)).set_ 2 (.int .i64 b.rate)).far (by show w.heap.size ≠ w.heap.size + 1; omega) (.int .i64 r0)).far (by show w.heap.size ≠ w.heap.size + 1; omega) (.int .i64 d0))
    have hy9 : Blk (((((w3.setCell ⟨w.heap.size, 0, none⟩ (.int .i64 b.first)).setCell ⟨w.heap.size, 1, none⟩ (.slice A1 n1 c1)).setCell ⟨w.heap.size, 2, none⟩ (.int .i64 b.rate)).setCell ⟨w.heap.size + 1, 0, none⟩ (.int .i64 r0)).setCell ⟨w.heap.size + 1, 1, none⟩ (.int .i64 d0)) (w.heap.size + 1) 31 #[.int .i64 r0, .int .i64 d0] := by simpa using ((((((HZ1.out.nx hT hn1).far (by show w.heap.size + 1 ≠ w.heap.size; omega) (.int .i64 b.first)).far (by show w.heap.size + 1 ≠ w.heap.size; omega) (.slice A1 n1 c1)).far (by show w.heap.size + 1 ≠ w.heap.size; omega) (.int .i64 b.rate)).set_ 0 (.int .i64 r0)).set_ 1 (.int .i64 d0))
    have hb9 : Below w.heap.size w (((((w3.setCell ⟨w.heap.size, 0, none⟩ (.int .i64 b.first)).setCell ⟨w.heap.size, 1, none⟩ (.slice A1 n1 c1)).setCell ⟨w.heap.size, 2, none⟩ (.int .i64 b.rate)).setCell ⟨w.heap.size + 1, 0, none⟩ (.int .i64 r0)).setCell ⟨w.heap.size + 1, 1, none⟩ (.int .i64 d0)) := ((((((HBW.out.trans (hT.below.mono (by omega))).setCell (p := ⟨w.heap.size, 0, none⟩) (by show w.heap.size ≤ w.heap.size; omega) (.int .i64 b.first)).setCell (p := ⟨w.heap.size, 1, none⟩) (by show w.heap.size ≤ w.heap.size; omega) (.slice A1 n1 c1)).setCell (p := ⟨w.heap.size, 2, none⟩) (by show w.heap.size ≤ w.heap.size; omega) (.int .i64 b.rate)).setCell (p := ⟨w.heap.size + 1, 0, none⟩) (by show w.heap.size ≤ w.heap.size + 1; omega) (.int .i64 r0)).setCell (p := ⟨w.heap.size + 1, 1, none⟩) (by show w.heap.size ≤ w.heap.size + 1; omega) (.int .i64 d0))
    have hp9 : PB w1.heap.size (((((w3.setCell ⟨w.heap.size, 0, none⟩ (.int .i64 b.first)).setCell ⟨w.heap.size, 1, none⟩ (.slice A1 n1 c1)).setCell ⟨w.heap.size, 2, none⟩ (.int .i64 b.rate)).setCell ⟨w.heap.size + 1, 0, none⟩ (.int .i64 r0)).setCell ⟨w.heap.size + 1, 1, none⟩ (.int .i64 d0)) b A1 n1 c1 A2 k c2 xs := ((((((HP.out.nxx hT hg1).low (show w.heap.size < w1.heap.size by omega) 0 (.int .i64 b.first)).low (show w.heap.size < w1.heap.size by omega) 1 (.slice A1 n1 c1)).low (show w.heap.size < w1.heap.size by omega) 2 (.int .i64 b.rate)).low (show w.heap.size + 1 < w1.heap.size by omega) 0 (.int .i64 r0)).low (show w.heap.size + 1 < w1.heap.size by omega) 1 (.int .i64 d0))
    clear zc0 zf0 zc1 zf1 zc2 zf2 yc0 yf0 yc1 yf1
    generalize (((((w3.setCell ⟨w.heap.size, 0, none⟩ (.int .i64 b.first)).setCell ⟨w.heap.size, 1, none⟩ (.slice A1 n1 c1)).setCell ⟨w.heap.size, 2, none⟩ (.int .i64 b.rate)).setCell ⟨w.heap.size + 1, 0, none⟩ (.int .i64 r0)).setCell ⟨w.heap.size + 1, 1, none⟩ (.int .i64 d0)) = W9 at hz9 hy9 hb9 hp9 ⊢
    have q0 : W9.cell? ⟨w.heap.size, 0, none⟩ = some (.int .i64 b.first) := hz9.cell 0
    have q1 : W9.cell? ⟨w.heap.size, 1, none⟩ = some (.slice A1 n1 c1) := hz9.cell 1
    have q2 : W9.cell? ⟨w.heap.size, 2, none⟩ = some (.int .i64 b.rate) := hz9.cell 2
    have p0 : W9.cell? ⟨w.heap.size + 1, 0, none⟩ = some (.int .i64 r0) := hy9.cell 0
    have p1 : W9.cell? ⟨w.heap.size + 1, 1, none⟩ = some (.int .i64 d0) := hy9.cell 1
    have HP9 := Lib.hid hp9; have HB9 := Lib.hid hb9; clear hp9 hb9
    go_wp2_with fail
    refine bodyPost_ret (v := .tuple #[.agg #[.int .i64 b.first, .slice A1 n1 c1, .int .i64 b.rate], .slice A2 k c2, .agg #[.int .i64 r0, .int .i64 d0], .int .i64 x1]) (by simp [results, Tryz.results99, go_sem, q0, q1, q2, p0, p1]) rfl ?_
    exact ⟨b, A1, n1, c1, A2, k, c2, xs, r0, d0, x1, rfl, HP9.out.more (by omega), hx0, hx1, HB9.out⟩
set_option maxRecDepth 100000 in
set_option maxHeartbeats 8000000 in
theorem spec_DrawBonusRate_any (K : Code) (hK : K.Ok) (w : World) (hX : Rd w w.heap.size K.A 1 (byteRows K.bs)) :
    Calls Tryz.prog 66 #[.slice K.A K.n K.c] w fun e w' => ∃ (b : Bas) (A : Option Addr) (n c : Nat) (A2 : Option Addr) (k c2 : Nat) (xs : List Holding) (x0 : Int), e = .returned (.tuple #[.agg #[.int .i64 b.first, .slice A n c, .int .i64 b.rate], .slice A2 k c2, .int .i64 x0]) ∧ PB w.heap.size w' b A n c A2 k c2 xs ∧ (-1 ≤ x0 ∧ x0 ≤ 1000000001) ∧ Below w.heap.size w w' := by
  have hb0 : Below w.heap.size w (w.alloc (.cells #[.int .i64 0, .slice none 0 0, .int .i64 0] 28)) := (Below.refl _ w).alloc (by first | exact Nat.le_refl _ | simp) _
  have HZ0 := Lib.hid (Blk.new w 28 #[.int .i64 0, .slice none 0 0, .int .i64 0])
  have hX := hX.past hb0
  have HBW := Lib.hid hb0; clear hb0
  have HSZ := Lib.hid (show w.heap.size + 1 ≤ (w.alloc (.cells #[.int .i64 0, .slice none 0 0, .int .i64 0] 28)).heap.size by simp)
  go_enter Tryz.func66, Tryz.ntmps66
  go_wp2_with fail
  generalize (w.alloc (.cells #[.int .i64 0, .slice none 0 0, .int .i64 0] 28)) = Wa at HZ0 HBW HSZ hX ⊢
  refine (spec_l01From_any K hK _ hX).mono ?_
  rintro e w1 ⟨g, rfl, hg, hb, hS⟩
  clear hX
  have hT := Nx.refl hS
  go_upto_region 3 with (go_at_call 73; refine (spec_l17Draw_pb K hK g _ _ hT).mono ?_; rintro e w2 ⟨b, A1, n1, c1, A2, k, c2, xs, rfl, hP, hT⟩)
  have hsz := HSZ.out
  have hg1 : g < w1.heap.size := hS.lt
  have h12 := hT.size
  have hn0 : w.heap.size ≠ g := by omega
  have hbl : Below w.heap.size w (w2.alloc (.cells #[.int .i64 b.first, .slice A1 n1 c1, .int .i64 b.rate] 28)) := (HBW.out.trans ((hb.mono (by omega)).trans (hT.below.mono (by omega)))).alloc (by have := HBW.out.size; have := hb.size; omega) _
  have HBW := Lib.hid hbl; clear hbl
  have HZ0 := Lib.hid (((HZ0.out.below' hb).nx hT hn0).alloc (.cells #[.int .i64 b.first, .slice A1 n1 c1, .int .i64 b.rate] 28))
  have HP := Lib.hid (hP.past ((Below.refl w2.heap.size w2).alloc (Nat.le_refl _) (.cells #[.int .i64 b.first, .slice A1 n1 c1, .int .i64 b.rate] 28)))
  have HB := Lib.hid (Blk.new w2 28 #[.int .i64 b.first, .slice A1 n1 c1, .int .i64 b.rate])
  have hS2 := (hT.alloc (.cells #[.int .i64 b.first, .slice A1 n1 c1, .int .i64 b.rate] 28)).src
  have hnb : w2.heap.size ≠ g := by omega
  have hzb : w.heap.size ≠ w2.heap.size := by omega
  clear hP hT hS hb
  generalize w2.alloc (.cells #[.int .i64 b.first, .slice A1 n1 c1, .int .i64 b.rate] 28) = W at HBW HZ0 HP HB hS2 ⊢
  generalize w2.heap.size = Gb at HB hnb hzb h12 ⊢
  have HS2 := Lib.hid hS2; clear hS2
  have HN := Lib.hid (Nx.refl HS2.out)
  have hT := HN.out
  have b0 : W.cell? ⟨Gb, 0, none⟩ = some (.int .i64 b.first) := HB.out.cell 0
  have b1 : W.cell? ⟨Gb, 1, none⟩ = some (.slice A1 n1 c1) := HB.out.cell 1
  have b2 : W.cell? ⟨Gb, 2, none⟩ = some (.int .i64 b.rate) := HB.out.cell 2
  go_region_law (go_simp; go_at_call 130; refine (spec_l19DrawAmount_any K hK g _ _ (by first | exact hT | exact hT.drew)).mono ?_; rintro e w3 ⟨x0, rfl, hx0, hT⟩; have b0 : w3.cell? ⟨Gb, 0, none⟩ = some (.int .i64 b.first) := (HB.out.nx hT hnb).cell 0; have b1 : w3.cell? ⟨Gb, 1, none⟩ = some (.slice A1 n1 c1) := (HB.out.nx hT hnb).cell 1; have b2 : w3.cell? ⟨Gb, 2, none⟩ = some (.int .i64 b.rate) := (HB.out.nx hT hnb).cell 2; have zc0 : w3.cell? ⟨w.heap.size, 0, none⟩ = some (.int .i64 0) := (HZ0.out.nx hT hn0).cell 0; have zf0 : w3.frozen? ⟨w.heap.size, 0, none⟩ = false := (HZ0.out.nx hT hn0).frozen 0; have zc1 : w3.cell? ⟨w.heap.size, 1, none⟩ = some (.slice none 0 0) := (HZ0.out.nx hT hn0).cell 1; have zf1 : w3.frozen? ⟨w.heap.size, 1, none⟩ = false := (HZ0.out.nx hT hn0).frozen 1; have zc2 : w3.cell? ⟨w.heap.size, 2, none⟩ = some (.int .i64 0) := (HZ0.out.nx hT hn0).cell 2; have zf2 : w3.frozen? ⟨w.heap.size, 2, none⟩ = false := (HZ0.out.nx hT hn0).frozen 2)
  all_goals
    have hz9 : Blk (((w3.setCell ⟨w.heap.size, 0, none⟩ (.int .i64 b.first)).setCell ⟨w.heap.size, 1, none⟩ (.slice A1 n1 c1)).setCell ⟨w.heap.size, 2, none⟩ (.int .i64 b.rate)) w.heap.size 28 #[.int .i64 b.first, .slice A1 n1 c1, .int .i64 b.rate] := by simpa using ((((HZ0.out.nx hT hn0).set_ 0 (.int .i64 b.first)).set_ 1 (.slice A1 n1 c1)).set_ 2 (.int .i64 b.rate))
    have hb9 : Below w.heap.size w (((w3.setCell ⟨w.heap.size, 0, none⟩ (.int .i64 b.first)).setCell ⟨w.heap.size, 1, none⟩ (.slice A1 n1 c1)).setCell ⟨w.heap.size, 2, none⟩ (.int .i64 b.rate)) := ((((HBW.out.trans (hT.below.mono (by omega))).setCell (p := ⟨w.heap.size, 0, none⟩) (by show w.heap.size ≤ w.heap.size; omega) (.int .i64 b.first)).setCell (p := ⟨w.heap.size, 1, none⟩) (by show w.heap.size ≤ w.heap.size; omega) (.slice A1 n1 c1)).setCell (p := ⟨w.heap.size, 2, none⟩) (by show w.heap.size ≤ w.heap.size; omega) (.int .i64 b.rate))
    have hp9 : PB w1.heap.size (((w3.setCell ⟨w.heap.size, 0, none⟩ (.int .i64 b.first)).setCell ⟨w.heap.size, 1, none⟩ (.slice A1 n1 c1)).setCell ⟨w.heap.size, 2, none⟩ (.int .i64 b.rate)) b A1 n1 c1 A2 k c2 xs := ((((HP.out.nxx hT hg1).low (show w.heap.size < w1.heap.size by omega) 0 (.int .i64 b.first)).low (show w.heap.size < w1.heap.size by omega) 1 (.slice A1 n1 c1)).low (show w.heap.size < w1.heap.size by omega) 2 (.int .i64 b.rate))
    clear zc0 zf0 zc1 zf1 zc2 zf2
    generalize (((w3.setCell ⟨w.heap.size, 0, none⟩ (.int .i64 b.first)).setCell ⟨w.heap.size, 1, none⟩ (.slice A1 n1 c1)).setCell ⟨w.heap.size, 2, none⟩ (.int .i64 b.rate)) = W9 at hz9 hb9 hp9 ⊢
    have q0 : W9.cell? ⟨w.heap.size, 0, none⟩ = some (.int .i64 b.first) := hz9.cell 0
    have q1 : W9.cell? ⟨w.heap.size, 1, none⟩ = some (.slice A1 n1 c1) := hz9.cell 1
    have q2 : W9.cell? ⟨w.heap.size, 2, none⟩ = some (.int .i64 b.rate) := hz9.cell 2
    have HP9 := Lib.hid hp9; have HB9 := Lib.hid hb9; clear hp9 hb9
    go_wp2_with fail
    refine bodyPost_ret (v := .tuple #[.agg #[.int .i64 b.first, .slice A1 n1 c1, .int .i64 b.rate], .slice A2 k c2, .int .i64 x0]) (by simp [results, Tryz.results66, go_sem, q0, q1, q2]) rfl ?_
    exact ⟨b, A1, n1, c1, A2, k, c2, xs, x0, rfl, HP9.out.more (by omega), hx0, HB9.out⟩
end Go.Proofs.YtbjdbpdgacfcpaaGreat
end

/- Draws of what is divided (printed by drawd.py). -/
section
namespace Go.Proofs.YtbjdbpdgacfcpaaGreat
open Go.RowKit Go.BigFrame

set_option maxRecDepth 100000 in
set_option maxHeartbeats 8000000 in
theorem spec_DrawDivideBonus_any (K : Code) (hK : K.Ok) (w : World) (hX : Rd w w.heap.size K.A 1 (byteRows K.bs)) :
    Calls Tryz.prog 61 #[.slice K.A K.n K.c] w fun e w' => ∃ (b : Bas) (A : Option Addr) (n c : Nat) (A2 : Option Addr) (k c2 : Nat) (xs : List Holding) (x0 x1 : Int), e = .returned (.tuple #[.agg #[.int .i64 b.first, .slice A n c, .int .i64 b.rate], .slice A2 k c2, .int .i64 x0, .int .i64 x1]) ∧ PB w.heap.size w' b A n c A2 k c2 xs ∧ (-1 ≤ x0 ∧ x0 ≤ 1000000001) ∧ (-1 ≤ x1 ∧ x1 ≤ 501) ∧ Below w.heap.size w w' := by
  have hb0 : Below w.heap.size w (w.alloc (.cells #[.int .i64 0, .slice none 0 0, .int .i64 0] 28)) := (Below.refl _ w).alloc (by first | exact Nat.le_refl _ | simp) _
  have HZ0 := Lib.hid (Blk.new w 28 #[.int .i64 0, .slice none 0 0, .int .i64 0])
  have hX := hX.past hb0
  have HBW := Lib.hid hb0; clear hb0
  have HSZ := Lib.hid (show w.heap.size + 1 ≤ (w.alloc (.cells #[.int .i64 0, .slice none 0 0, .int .i64 0] 28)).heap.size by simp)
  go_enter Tryz.func61, Tryz.ntmps61
  go_wp2_with fail
  generalize (w.alloc (.cells #[.int .i64 0, .slice none 0 0, .int .i64 0] 28)) = Wa at HZ0 HBW HSZ hX ⊢
  refine (spec_l01From_any K hK _ hX).mono ?_
  rintro e w1 ⟨g, rfl, hg, hb, hS⟩
  clear hX
  have hT := Nx.refl hS
  go_upto_region 3 with (go_at_call 73; refine (spec_l17Draw_pb K hK g _ _ hT).mono ?_; rintro e w2 ⟨b, A1, n1, c1, A2, k, c2, xs, rfl, hP, hT⟩)
  have hsz := HSZ.out
  have hg1 : g < w1.heap.size := hS.lt
  have h12 := hT.size
  have hn0 : w.heap.size ≠ g := by omega
  have hbl : Below w.heap.size w (w2.alloc (.cells #[.int .i64 b.first, .slice A1 n1 c1, .int .i64 b.rate] 28)) := (HBW.out.trans ((hb.mono (by omega)).trans (hT.below.mono (by omega)))).alloc (by have := HBW.out.size; have := hb.size; omega) _
  have HBW := Lib.hid hbl; clear hbl
  have HZ0 := Lib.hid (((HZ0.out.below' hb).nx hT hn0).alloc (.cells #[.int .i64 b.first, .slice A1 n1 c1, .int .i64 b.rate] 28))
  have HP := Lib.hid (hP.past ((Below.refl w2.heap.size w2).alloc (Nat.le_refl _) (.cells #[.int .i64 b.first, .slice A1 n1 c1, .int .i64 b.rate] 28)))
  have HB := Lib.hid (Blk.new w2 28 #[.int .i64 b.first, .slice A1 n1 c1, .int .i64 b.rate])
  have hS2 := (hT.alloc (.cells #[.int .i64 b.first, .slice A1 n1 c1, .int .i64 b.rate] 28)).src
  have hnb : w2.heap.size ≠ g := by omega
  have hzb : w.heap.size ≠ w2.heap.size := by omega
  clear hP hT hS hb
  generalize w2.alloc (.cells #[.int .i64 b.first, .slice A1 n1 c1, .int .i64 b.rate] 28) = W at HBW HZ0 HP HB hS2 ⊢
  generalize w2.heap.size = Gb at HB hnb hzb h12 ⊢
  have HS2 := Lib.hid hS2; clear hS2
  have HN := Lib.hid (Nx.refl HS2.out)
  have hT := HN.out
  have b0 : W.cell? ⟨Gb, 0, none⟩ = some (.int .i64 b.first) := HB.out.cell 0
  have b1 : W.cell? ⟨Gb, 1, none⟩ = some (.slice A1 n1 c1) := HB.out.cell 1
  have b2 : W.cell? ⟨Gb, 2, none⟩ = some (.int .i64 b.rate) := HB.out.cell 2
  go_region_law (first | ((try go_simp); go_at_call 130; refine (spec_l19DrawAmount_any K hK g _ _ (by first | exact hT | exact hT.drew)).mono ?_; rintro e w3 ⟨x0, rfl, hx0, hT⟩; have u0 : w3.cell? ⟨Gb, 0, none⟩ = some (.int .i64 b.first) := (HB.out.nx hT hnb).cell 0; have u1 : w3.cell? ⟨Gb, 1, none⟩ = some (.slice A1 n1 c1) := (HB.out.nx hT hnb).cell 1; have u2 : w3.cell? ⟨Gb, 2, none⟩ = some (.int .i64 b.rate) := (HB.out.nx hT hnb).cell 2) | ((try go_simp); go_at_call 102; refine (spec_l01Next_any K hK g _ _ _ (by first | exact hT | exact hT.drew)).mono ?_; rintro e w4 ⟨y, rfl, ⟨hy0, hy1⟩, hT⟩; have hwr : IntKind.i64.wrap (y - 1) = y - 1 := IntWalk.i64_in _ (by omega); have d0 : w4.cell? ⟨Gb, 0, none⟩ = some (.int .i64 b.first) := (HB.out.nx hT hnb).cell 0; have d1 : w4.cell? ⟨Gb, 1, none⟩ = some (.slice A1 n1 c1) := (HB.out.nx hT hnb).cell 1; have d2 : w4.cell? ⟨Gb, 2, none⟩ = some (.int .i64 b.rate) := (HB.out.nx hT hnb).cell 2; have f0 : (w4.alloc (.cells #[.int .i64 0, .int .i64 100, .int .i64 (y - 1)] 2)).cell? ⟨Gb, 0, none⟩ = some (.int .i64 b.first) := ((HB.out.nx hT hnb).alloc _).cell 0; have f1 : (w4.alloc (.cells #[.int .i64 0, .int .i64 100, .int .i64 (y - 1)] 2)).cell? ⟨Gb, 1, none⟩ = some (.slice A1 n1 c1) := ((HB.out.nx hT hnb).alloc _).cell 1; have f2 : (w4.alloc (.cells #[.int .i64 0, .int .i64 100, .int .i64 (y - 1)] 2)).cell? ⟨Gb, 2, none⟩ = some (.int .i64 b.rate) := ((HB.out.nx hT hnb).alloc _).cell 2; have hgl := hT.src.lt) | ((try go_simp); go_at_call 80; refine (spec_l01Pick_any K hK g _ w4.heap.size [.int .i64 0, .int .i64 100, .int .i64 (y - 1)] 3 _ (by first | exact hT.alloc _ | exact (hT.alloc _).drew) (by first | exact Blk.new w4 _ _ | exact (Blk.new w4 _ _).drew) hgl rfl (by decide) (by decide) rfl).mono ?_; rintro e w5 ⟨x1, rfl, hx1, hT⟩; simp only [OneOf, Value.int.injEq, true_and, or_false] at hx1; have b0 : w5.cell? ⟨Gb, 0, none⟩ = some (.int .i64 b.first) := (HB.out.nx hT hnb).cell 0; have b1 : w5.cell? ⟨Gb, 1, none⟩ = some (.slice A1 n1 c1) := (HB.out.nx hT hnb).cell 1; have b2 : w5.cell? ⟨Gb, 2, none⟩ = some (.int .i64 b.rate) := (HB.out.nx hT hnb).cell 2; have zc0 : w5.cell? ⟨w.heap.size, 0, none⟩ = some (.int .i64 0) := (HZ0.out.nx hT hn0).cell 0; have zf0 : w5.frozen? ⟨w.heap.size, 0, none⟩ = false := (HZ0.out.nx hT hn0).frozen 0; have zc1 : w5.cell? ⟨w.heap.size, 1, none⟩ = some (.slice none 0 0) := (HZ0.out.nx hT hn0).cell 1; have zf1 : w5.frozen? ⟨w.heap.size, 1, none⟩ = false := (HZ0.out.nx hT hn0).frozen 1; have zc2 : w5.cell? ⟨w.heap.size, 2, none⟩ = some (.int .i64 0) := (HZ0.out.nx hT hn0).cell 2; have zf2 : w5.frozen? ⟨w.heap.size, 2, none⟩ = false := (HZ0.out.nx hT hn0).frozen 2))
  all_goals
    replace hx1 : -1 ≤ x1 ∧ x1 ≤ 501 := by omega
    have hz9 : Blk (((w5.setCell ⟨w.heap.size, 0, none⟩ (.int .i64 b.first)).setCell ⟨w.heap.size, 1, none⟩ (.slice A1 n1 c1)).setCell ⟨w.heap.size, 2, none⟩ (.int .i64 b.rate)) w.heap.size 28 #[.int .i64 b.first, .slice A1 n1 c1, .int .i64 b.rate] := by simpa using ((((HZ0.out.nx hT hn0).set_ 0 (.int .i64 b.first)).set_ 1 (.slice A1 n1 c1)).set_ 2 (.int .i64 b.rate))
    have hb9 : Below w.heap.size w (((w5.setCell ⟨w.heap.size, 0, none⟩ (.int .i64 b.first)).setCell ⟨w.heap.size, 1, none⟩ (.slice A1 n1 c1)).setCell ⟨w.heap.size, 2, none⟩ (.int .i64 b.rate)) := ((((HBW.out.trans (hT.below.mono (by omega))).setCell (p := ⟨w.heap.size, 0, none⟩) (by show w.heap.size ≤ w.heap.size; omega) (.int .i64 b.first)).setCell (p := ⟨w.heap.size, 1, none⟩) (by show w.heap.size ≤ w.heap.size; omega) (.slice A1 n1 c1)).setCell (p := ⟨w.heap.size, 2, none⟩) (by show w.heap.size ≤ w.heap.size; omega) (.int .i64 b.rate))
    have hp9 : PB w1.heap.size (((w5.setCell ⟨w.heap.size, 0, none⟩ (.int .i64 b.first)).setCell ⟨w.heap.size, 1, none⟩ (.slice A1 n1 c1)).setCell ⟨w.heap.size, 2, none⟩ (.int .i64 b.rate)) b A1 n1 c1 A2 k c2 xs := ((((HP.out.nxx hT hg1).low (show w.heap.size < w1.heap.size by omega) 0 (.int .i64 b.first)).low (show w.heap.size < w1.heap.size by omega) 1 (.slice A1 n1 c1)).low (show w.heap.size < w1.heap.size by omega) 2 (.int .i64 b.rate))
    clear zc0 zf0 zc1 zf1 zc2 zf2
    generalize (((w5.setCell ⟨w.heap.size, 0, none⟩ (.int .i64 b.first)).setCell ⟨w.heap.size, 1, none⟩ (.slice A1 n1 c1)).setCell ⟨w.heap.size, 2, none⟩ (.int .i64 b.rate)) = W9 at hz9 hb9 hp9 ⊢
    have q0 : W9.cell? ⟨w.heap.size, 0, none⟩ = some (.int .i64 b.first) := hz9.cell 0
    have q1 : W9.cell? ⟨w.heap.size, 1, none⟩ = some (.slice A1 n1 c1) := hz9.cell 1
    have q2 : W9.cell? ⟨w.heap.size, 2, none⟩ = some (.int .i64 b.rate) := hz9.cell 2
    have HP9 := Lib.hid hp9; have HB9 := Lib.hid hb9; clear hp9 hb9
    go_wp2_with fail
    refine bodyPost_ret (v := .tuple #[.agg #[.int .i64 b.first, .slice A1 n1 c1, .int .i64 b.rate], .slice A2 k c2, .int .i64 x0, .int .i64 x1]) (by simp [results, Tryz.results61, go_sem, q0, q1, q2]) rfl ?_
    exact ⟨b, A1, n1, c1, A2, k, c2, xs, x0, x1, rfl, HP9.out.more (by omega), hx0, hx1, HB9.out⟩
end Go.Proofs.YtbjdbpdgacfcpaaGreat
end

/- Draws of what each gets (printed by drawd.py). -/
section
namespace Go.Proofs.YtbjdbpdgacfcpaaGreat
open Go.RowKit Go.BigFrame

set_option maxRecDepth 100000 in
set_option maxHeartbeats 8000000 in
theorem spec_DrawCashEach_any (K : Code) (hK : K.Ok) (w : World) (hX : Rd w w.heap.size K.A 1 (byteRows K.bs)) :
    Calls Tryz.prog 69 #[.slice K.A K.n K.c] w fun e w' => ∃ ct v : Int, e = .returned (.tuple #[.agg #[.int .i64 0, .int .i64 0, .int .i64 0, .int .i64 0, .int .i64 0, .int .i64 0, .int .i64 ct], .int .i64 v]) ∧ (0 ≤ ct ∧ ct ≤ 1000001) ∧ (-1 ≤ v ∧ v ≤ 1000000001) ∧ Below w.heap.size w w' := by
  have hb0 : Below w.heap.size w (w.alloc (.cells #[.int .i64 0, .int .i64 0, .int .i64 0, .int .i64 0, .int .i64 0, .int .i64 0, .int .i64 0] 90)) := (Below.refl _ w).alloc (Nat.le_refl _) _
  have HZ0 := Lib.hid (Blk.new w 90 #[.int .i64 0, .int .i64 0, .int .i64 0, .int .i64 0, .int .i64 0, .int .i64 0, .int .i64 0])
  have hX := hX.past hb0
  have HBW := Lib.hid hb0; clear hb0
  have HSZ := Lib.hid (show w.heap.size + 1 ≤ (w.alloc (.cells #[.int .i64 0, .int .i64 0, .int .i64 0, .int .i64 0, .int .i64 0, .int .i64 0, .int .i64 0] 90)).heap.size by simp)
  go_enter Tryz.func69, Tryz.ntmps69
  go_wp2_with fail
  generalize (w.alloc (.cells #[.int .i64 0, .int .i64 0, .int .i64 0, .int .i64 0, .int .i64 0, .int .i64 0, .int .i64 0] 90)) = Wa at HZ0 HBW HSZ hX ⊢
  refine (spec_l01From_any K hK _ hX).mono ?_
  rintro e w1 ⟨g, rfl, hg, hb, hS⟩
  clear hX
  have hT := Nx.refl hS
  have hsz := HSZ.out
  have hg1 : g < w1.heap.size := hS.lt
  have hn0 : w.heap.size ≠ g := by omega
  have HBW1 := Lib.hid (HBW.out.trans (hb.mono (by omega)))
  have HZ1 := Lib.hid (HZ0.out.below' hb)
  have hs1 : w.heap.size ≤ w1.heap.size := by omega
  clear hS hb HZ0 HBW
  go_wp2_with fail
  refine (spec_l01Next_any K hK g _ 300 _ hT).mono ?_
  rintro e w3 ⟨x, rfl, ⟨hx0, hx1⟩, hT⟩
  go_wp2_with fail
  refine (spec_l01Next_any K hK g _ 2 _ hT).mono ?_
  rintro e w4 ⟨y, rfl, ⟨hy0, hy1⟩, hT⟩
  have hgl := hT.src.lt
  go_wp2_with fail
  refine (spec_l01Pick_any K hK g _ w4.heap.size [.int .i64 1, .int .i64 7, .int .i64 1000000, .int .i64 x, .int .i64 (y * 1000001)] 5 _ (hT.alloc _) (Blk.new w4 _ _) hgl rfl (by decide) (by decide) rfl).mono ?_
  rintro e w5 ⟨ct, rfl, hct, hT⟩
  simp only [OneOf, Value.int.injEq, true_and, or_false] at hct
  go_wp2_with fail
  refine (spec_l19DrawAmount_any K hK g _ _ hT).mono ?_
  rintro e w6 ⟨v, rfl, hv, hT⟩
  have zc0 : w6.cell? ⟨w.heap.size, 0, none⟩ = some (.int .i64 0) := (HZ1.out.nx hT hn0).cell 0
  have zf0 : w6.frozen? ⟨w.heap.size, 0, none⟩ = false := (HZ1.out.nx hT hn0).frozen 0
  have zc1 : w6.cell? ⟨w.heap.size, 1, none⟩ = some (.int .i64 0) := (HZ1.out.nx hT hn0).cell 1
  have zf1 : w6.frozen? ⟨w.heap.size, 1, none⟩ = false := (HZ1.out.nx hT hn0).frozen 1
  have zc2 : w6.cell? ⟨w.heap.size, 2, none⟩ = some (.int .i64 0) := (HZ1.out.nx hT hn0).cell 2
  have zf2 : w6.frozen? ⟨w.heap.size, 2, none⟩ = false := (HZ1.out.nx hT hn0).frozen 2
  have zc3 : w6.cell? ⟨w.heap.size, 3, none⟩ = some (.int .i64 0) := (HZ1.out.nx hT hn0).cell 3
  have zf3 : w6.frozen? ⟨w.heap.size, 3, none⟩ = false := (HZ1.out.nx hT hn0).frozen 3
  have zc4 : w6.cell? ⟨w.heap.size, 4, none⟩ = some (.int .i64 0) := (HZ1.out.nx hT hn0).cell 4
  have zf4 : w6.frozen? ⟨w.heap.size, 4, none⟩ = false := (HZ1.out.nx hT hn0).frozen 4
  have zc5 : w6.cell? ⟨w.heap.size, 5, none⟩ = some (.int .i64 0) := (HZ1.out.nx hT hn0).cell 5
  have zf5 : w6.frozen? ⟨w.heap.size, 5, none⟩ = false := (HZ1.out.nx hT hn0).frozen 5
  have zc6 : w6.cell? ⟨w.heap.size, 6, none⟩ = some (.int .i64 0) := (HZ1.out.nx hT hn0).cell 6
  have zf6 : w6.frozen? ⟨w.heap.size, 6, none⟩ = false := (HZ1.out.nx hT hn0).frozen 6
  go_wp2_with fail
  have hct9 : 0 ≤ ct ∧ ct ≤ 1000001 := by
    omega
  clear hct
  have hz9 : Blk ((((((((w6.setCell ⟨w.heap.size, 0, none⟩ (.int .i64 0)).setCell ⟨w.heap.size, 1, none⟩ (.int .i64 0)).setCell ⟨w.heap.size, 2, none⟩ (.int .i64 0)).setCell ⟨w.heap.size, 3, none⟩ (.int .i64 0)).setCell ⟨w.heap.size, 4, none⟩ (.int .i64 0)).setCell ⟨w.heap.size, 5, none⟩ (.int .i64 0)).setCell ⟨w.heap.size, 6, none⟩ (.int .i64 ct))) w.heap.size 90 #[.int .i64 0, .int .i64 0, .int .i64 0, .int .i64 0, .int .i64 0, .int .i64 0, .int .i64 ct] := by simpa using (((((((((HZ1.out.nx hT hn0).set_ 0 (.int .i64 0)).set_ 1 (.int .i64 0)).set_ 2 (.int .i64 0)).set_ 3 (.int .i64 0)).set_ 4 (.int .i64 0)).set_ 5 (.int .i64 0)).set_ 6 (.int .i64 ct)))
  have hb9 : Below w.heap.size w ((((((((w6.setCell ⟨w.heap.size, 0, none⟩ (.int .i64 0)).setCell ⟨w.heap.size, 1, none⟩ (.int .i64 0)).setCell ⟨w.heap.size, 2, none⟩ (.int .i64 0)).setCell ⟨w.heap.size, 3, none⟩ (.int .i64 0)).setCell ⟨w.heap.size, 4, none⟩ (.int .i64 0)).setCell ⟨w.heap.size, 5, none⟩ (.int .i64 0)).setCell ⟨w.heap.size, 6, none⟩ (.int .i64 ct))) := ((((((((HBW1.out.trans (hT.below.mono (by omega))).setCell (p := ⟨w.heap.size, 0, none⟩) (by show w.heap.size ≤ w.heap.size; omega) (.int .i64 0)).setCell (p := ⟨w.heap.size, 1, none⟩) (by show w.heap.size ≤ w.heap.size; omega) (.int .i64 0)).setCell (p := ⟨w.heap.size, 2, none⟩) (by show w.heap.size ≤ w.heap.size; omega) (.int .i64 0)).setCell (p := ⟨w.heap.size, 3, none⟩) (by show w.heap.size ≤ w.heap.size; omega) (.int .i64 0)).setCell (p := ⟨w.heap.size, 4, none⟩) (by show w.heap.size ≤ w.heap.size; omega) (.int .i64 0)).setCell (p := ⟨w.heap.size, 5, none⟩) (by show w.heap.size ≤ w.heap.size; omega) (.int .i64 0)).setCell (p := ⟨w.heap.size, 6, none⟩) (by show w.heap.size ≤ w.heap.size; omega) (.int .i64 ct))
  clear zc0 zf0 zc1 zf1 zc2 zf2 zc3 zf3 zc4 zf4 zc5 zf5 zc6 zf6
  generalize ((((((((w6.setCell ⟨w.heap.size, 0, none⟩ (.int .i64 0)).setCell ⟨w.heap.size, 1, none⟩ (.int .i64 0)).setCell ⟨w.heap.size, 2, none⟩ (.int .i64 0)).setCell ⟨w.heap.size, 3, none⟩ (.int .i64 0)).setCell ⟨w.heap.size, 4, none⟩ (.int .i64 0)).setCell ⟨w.heap.size, 5, none⟩ (.int .i64 0)).setCell ⟨w.heap.size, 6, none⟩ (.int .i64 ct))) = W9 at hz9 hb9 ⊢
  have q0 : W9.cell? ⟨w.heap.size, 0, none⟩ = some (.int .i64 0) := hz9.cell 0
  have q1 : W9.cell? ⟨w.heap.size, 1, none⟩ = some (.int .i64 0) := hz9.cell 1
  have q2 : W9.cell? ⟨w.heap.size, 2, none⟩ = some (.int .i64 0) := hz9.cell 2
  have q3 : W9.cell? ⟨w.heap.size, 3, none⟩ = some (.int .i64 0) := hz9.cell 3
  have q4 : W9.cell? ⟨w.heap.size, 4, none⟩ = some (.int .i64 0) := hz9.cell 4
  have q5 : W9.cell? ⟨w.heap.size, 5, none⟩ = some (.int .i64 0) := hz9.cell 5
  have q6 : W9.cell? ⟨w.heap.size, 6, none⟩ = some (.int .i64 ct) := hz9.cell 6
  have HB9 := Lib.hid hb9; clear hb9
  go_wp2_with fail
  refine bodyPost_ret (v := .tuple #[.agg #[.int .i64 0, .int .i64 0, .int .i64 0, .int .i64 0, .int .i64 0, .int .i64 0, .int .i64 ct], .int .i64 v]) (by simp [results, Tryz.results69, go_sem, q0, q1, q2, q3, q4, q5, q6]) rfl ?_
  exact ⟨ct, v, rfl, hct9, hv, HB9.out⟩
end Go.Proofs.YtbjdbpdgacfcpaaGreat
end

/- How a law that draws opens its code, and from its walk to its row. No condition. -/
section
namespace Go.Proofs.YtbjdbpdgacfcpaaGreat
open Go.ChangeShapes Go.WideShapes Go.ChangeAt Go.RowKit Go.Deep

section
variable {H : Type} {enc : TypeId × Value → H} {P : Program} {w : World} {base : Nat} {spare : Nat → Bool} {held : Bool}
theorem open_code {t e : TypeId} {fuel n cap : Nat} {A : Option Addr} {x : DataW H × List MemPlace} (ht : P.underlying t = some (.slice e)) (he : P.underlying e = some (.int .u8)) (hC : P.cellsOf e = 1)
    (h : DataW.trod enc P w base spare held fuel t [.slice A n cap] = some x) :
    ∃ bs : List Int, bs.length = n ∧ (∀ z ∈ bs, 0 ≤ z ∧ z ≤ 255) ∧ Rd w w.heap.size A 1 (byteRows bs) ∧ n ≤ 9223372036854775807 := by
  rcases open_slice ht h with ⟨h0, _⟩ | ⟨a, len, cap', m', n', D, Pl, hcs, hb, hl, hmx, hmm, _, hel⟩
  · simp only [List.cons.injEq, Value.slice.injEq, and_true] at h0
    obtain ⟨rfl, rfl, _⟩ := h0
    exact ⟨[], rfl, by simp, .inl rfl, by omega⟩
  · simp only [List.cons.injEq, Value.slice.injEq, and_true] at hcs
    obtain ⟨rfl, rfl, rfl⟩ := hcs
    have hle : n ≤ m' := by rw [hmm]; split <;> omega
    have each : ∀ i : Nat, i < n → ∃ z : Int, (0 ≤ z ∧ z ≤ 255) ∧ w.cell? (a.add i) = some (.int .u8 z) := by
      intro i hin
      obtain ⟨cs', hc, htr⟩ := hel i (by omega)
      obtain ⟨z, rfl, _, wn⟩ := DataW.trod_int he htr
      obtain ⟨_, hcl, hat⟩ := World.cells?_some hc
      have := hat 0 (by rw [hC]; omega)
      rw [hC, add_of_add] at this
      refine ⟨z, ?_, by simpa using this⟩
      simpa [Lit.wf, IntKind.min, IntKind.max, IntKind.signed, IntKind.bits] using wn
    obtain ⟨bs, hbl, hbs⟩ := list_of n each
    have hmx' : n ≤ 9223372036854775807 := by unfold maxLen at *; omega
    refine ⟨bs, hbl, fun z hz => ?_, ?_, hmx'⟩
    · obtain ⟨i, hi', rfl⟩ := List.getElem_of_mem hz
      exact (hbs i _ (List.getElem?_eq_getElem hi')).1
    · rcases Nat.eq_zero_or_pos n with h0 | h0
      · have : bs = [] := List.eq_nil_of_length_eq_zero (by omega)
        subst this; exact .inl rfl
      · have hblk : a.block < w.heap.size := by
          obtain ⟨z, hz⟩ := get_of_lt (xs := bs) (k := 0) (by omega)
          have := block_lt_of_cell (hbs 0 z hz).2
          rwa [block_of_add] at this
        refine .inr ⟨a, rfl, hblk, fun k r hk => ?_⟩
        simp only [byteRows, List.getElem?_map, Option.map_eq_some_iff] at hk
        obtain ⟨z, hk, rfl⟩ := hk
        refine ⟨rfl, fun j v hv => ?_⟩
        have hj : j = 0 := by have := (List.getElem?_eq_some_iff.1 hv).1; simp at this; exact this
        subst hj
        simp only [List.getElem?_cons_zero, Option.some.injEq] at hv
        subst hv
        simpa using (hbs k z hk).2
end
theorem laws_big_any (A : Option Addr) (n cap : Nat) (w : World) (_hn : n ≤ 9223372036854775807) : Calls Tryz.prog 8 #[.slice A n cap] w fun e w' => e = .returned (.bool (decide (4096 < n))) ∧ w = w' := by
  by_cases h : 4096 < n
  · go_enter Tryz.func8, Tryz.ntmps8
    go_wp2
    go_ret
    exact ⟨by simp; omega, rfl⟩
  · go_enter Tryz.func8, Tryz.ntmps8
    go_wp2
    go_ret
    exact ⟨by simp; omega, rfl⟩
end Go.Proofs.YtbjdbpdgacfcpaaGreat
end
