/- Parts of a proof, one after another: DrawP7, DrawX, DrawX3. No condition. -/
import Derived.Test.YtbjdbpdgacfcpaaGreatK16
import Derived.Deep.RegionLaw
/- Draws of scenarios, amounts, funds; draws of the arguments of laws on portfolios. -/
section
namespace Go.Proofs.YtbjdbpdgacfcpaaGreat
open Go.RowKit Go.BigFrame

theorem Res.low {w : World} {B t sz n cap : Nat} {A : Option Addr} {rows : List (List Value)} (h : Res B w t sz A n cap rows) {Z : Nat} (hZ : Z < B) (i : Nat) (v : Value) : Res B (w.setCell ⟨Z, i, none⟩ v) t sz A n cap rows :=
  h.keep fun a ha => Below.heap_setCell _ _ _ _ (by have := (h.lt ha).1; show a ≠ Z; omega)
/-- a drawn basis, a drawn portfolio -/
structure PB (B : Nat) (w : World) (b : Bas) (A : Option Addr) (n c : Nat) (A2 : Option Addr) (k c2 : Nat) (xs : List Holding) : Prop where
  liv : Res B w 2 1 A n c (intRows b.lives)
  sm : BasSmall b n
  res : Res B w 90 7 A2 k c2 (holdingRows xs)
  len : k ≤ 100
  fits : ∀ x ∈ xs, x.fits
namespace PB
variable {K : Code} {g B : Nat} {w w' : World} {b : Bas} {A : Option Addr} {n c : Nat} {A2 : Option Addr} {k c2 : Nat} {xs : List Holding}
theorem nxx (h : PB B w b A n c A2 k c2 xs) (hN : Nx K g w w') (hB : g < B) : PB B w' b A n c A2 k c2 xs := { h with liv := h.liv.nx hN hB, res := h.res.nx hN hB }
theorem past (h : PB B w b A n c A2 k c2 xs) (hb : Below w.heap.size w w') : PB B w' b A n c A2 k c2 xs := { h with liv := h.liv.past hb, res := h.res.past hb }
theorem more {B' : Nat} (h : PB B w b A n c A2 k c2 xs) (hB : B' ≤ B) : PB B' w b A n c A2 k c2 xs := { h with liv := h.liv.more hB, res := h.res.more hB }
theorem low (h : PB B w b A n c A2 k c2 xs) {Z : Nat} (hZ : Z < B) (i : Nat) (v : Value) : PB B (w.setCell ⟨Z, i, none⟩ v) b A n c A2 k c2 xs := { h with liv := h.liv.low hZ i v, res := h.res.low hZ i v }
theorem xlen (h : PB B w b A n c A2 k c2 xs) : xs.length = k := by have := h.res.len; rwa [holdingRows_length] at this
theorem blen (h : PB B w b A n c A2 k c2 xs) : b.lives.length = n := by have := h.liv.len; rwa [intRows_length] at this
theorem basT (h : PB B w b A n c A2 k c2 xs) : BasT w A n c b := by
  have hl := h.blen
  refine BasT.of_res h.liv (by have := h.sm.len; omega) (fun x hx => ?_) ?_ ?_
  · have := h.sm.lives x hx; unfold In64; omega
  · have := h.sm.first; unfold In64; omega
  · have := h.sm.rate; unfold In64; omega
end PB
theorem spec_l17Draw_pb (K : Code) (hK : K.Ok) (g : Nat) (w0 : World) (w : World) (hT : Nx K g w0 w) :
    Calls Tryz.prog 73 #[.pointer (some ⟨g, 0, none⟩)] w fun e w' => ∃ (b : Bas) (A' : Option Addr) (n' c' : Nat) (A2 : Option Addr) (k c2 : Nat) (xs : List Holding), e = .returned (.tuple #[.agg #[.int .i64 b.first, .slice A' n' c', .int .i64 b.rate], .slice A2 k c2]) ∧ PB w0.heap.size w' b A' n' c' A2 k c2 xs ∧ Nx K g w0 w' := by
  refine (spec_l17Draw_any K hK g w0 w hT).mono ?_
  rintro e w3 ⟨b, A1, n1, c1, A2, k, c2, xs, rfl, h1, h2, h3, h4, h5, hT⟩
  exact ⟨b, A1, n1, c1, A2, k, c2, xs, rfl, ⟨h1, h2, h3, h4, h5⟩, hT⟩

set_option maxHeartbeats 2000000 in
theorem spec_l21DrawDeath_any (K : Code) (hK : K.Ok) (g : Nat) (w0 : World) (w : World) (hT : Nx K g w0 w) :
    Calls Tryz.prog 81 #[.pointer (some ⟨g, 0, none⟩)] w fun e w' => ∃ d : Int, e = .returned (.int .i64 d) ∧ (-501 ≤ d ∧ d ≤ 501) ∧ Nx K g w0 w' := by
  go_enter Tryz.func81, Tryz.ntmps81
  go_wp2_with (first | (go_at_call 102; refine (spec_l01Next_any K hK g _ _ _ (Nx.refl (Nx.src (by first | exact hT | exact hT.alloc _ | exact (hT.alloc _).alloc _ | exact hT.drew)))).mono ?_; rintro e w3 ⟨x, rfl, ⟨hx0, hx1⟩, hN⟩; have hT := Nx.trans (by first | exact hT | exact hT.alloc _ | exact (hT.alloc _).alloc _ | exact hT.drew) hN) | (go_at_call 80; refine (spec_l01Pick_new K hK g _ _ _ _ (by first | exact hT | exact hT.alloc _ | exact (hT.alloc _).alloc _ | exact hT.drew) (by rfl) (by decide) (by decide) (by rfl)).mono ?_; rintro e w3 ⟨x, rfl, hx, hT⟩; simp only [OneOf, Value.int.injEq, true_and, or_false] at hx))
  all_goals (go_ret; exact ⟨_, rfl, by omega, hT⟩)
set_option maxHeartbeats 2000000 in
theorem spec_l21DrawFund_any (K : Code) (hK : K.Ok) (g : Nat) (w0 : World) (w : World) (hT : Nx K g w0 w) :
    Calls Tryz.prog 105 #[.pointer (some ⟨g, 0, none⟩)] w fun e w' => ∃ d : Int, e = .returned (.int .i64 d) ∧ (-1 ≤ d ∧ d ≤ 1000000000001) ∧ Nx K g w0 w' := by
  go_enter Tryz.func105, Tryz.ntmps105
  go_wp2_with (first | (go_at_call 102; refine (spec_l01Next_any K hK g _ _ _ (Nx.refl (Nx.src (by first | exact hT | exact hT.alloc _ | exact (hT.alloc _).alloc _ | exact hT.drew)))).mono ?_; rintro e w3 ⟨x, rfl, ⟨hx0, hx1⟩, hN⟩; have hT := Nx.trans (by first | exact hT | exact hT.alloc _ | exact (hT.alloc _).alloc _ | exact hT.drew) hN) | (go_at_call 80; refine (spec_l01Pick_new K hK g _ _ _ _ (by first | exact hT | exact hT.alloc _ | exact (hT.alloc _).alloc _ | exact hT.drew) (by rfl) (by decide) (by decide) (by rfl)).mono ?_; rintro e w3 ⟨x, rfl, hx, hT⟩; simp only [OneOf, Value.int.injEq, true_and, or_false] at hx))
  all_goals (go_ret; exact ⟨_, rfl, by omega, hT⟩)
set_option maxHeartbeats 2000000 in
theorem spec_l19DrawAmount_any (K : Code) (hK : K.Ok) (g : Nat) (w0 : World) (w : World) (hT : Nx K g w0 w) :
    Calls Tryz.prog 130 #[.pointer (some ⟨g, 0, none⟩)] w fun e w' => ∃ d : Int, e = .returned (.int .i64 d) ∧ (-1 ≤ d ∧ d ≤ 1000000001) ∧ Nx K g w0 w' := by
  go_enter Tryz.func130, Tryz.ntmps130
  go_wp2_with (first | (go_at_call 102; refine (spec_l01Next_any K hK g _ _ _ (Nx.refl (Nx.src (by first | exact hT | exact hT.alloc _ | exact (hT.alloc _).alloc _ | exact hT.drew)))).mono ?_; rintro e w3 ⟨x, rfl, ⟨hx0, hx1⟩, hN⟩; have hT := Nx.trans (by first | exact hT | exact hT.alloc _ | exact (hT.alloc _).alloc _ | exact hT.drew) hN) | (go_at_call 80; refine (spec_l01Pick_new K hK g _ _ _ _ (by first | exact hT | exact hT.alloc _ | exact (hT.alloc _).alloc _ | exact hT.drew) (by rfl) (by decide) (by decide) (by rfl)).mono ?_; rintro e w3 ⟨x, rfl, hx, hT⟩; simp only [OneOf, Value.int.injEq, true_and, or_false] at hx))
  all_goals (go_ret; exact ⟨_, rfl, by omega, hT⟩)

/-- the boxes of l21Draw -/
structure S21 (K : Code) (g : Nat) (w W : World) (Gs : Nat) (r d : Int) : Prop where
  z : Blk W w.heap.size 31 #[.int .i64 0, .int .i64 0]
  s : Blk W Gs 31 #[.int .i64 r, .int .i64 d]
  nx : Nx K g w W
  gw : g < w.heap.size
  ws : w.heap.size < Gs
  hr : (-1000 ≤ r ∧ r ≤ 1000) ∧ (-1000 ≤ d ∧ d ≤ 1000)
theorem S21.nxx {K : Code} {g : Nat} {w W W' : World} {Gs : Nat} {r d : Int} (h : S21 K g w W Gs r d) (hN : Nx K g W W') : S21 K g w W' Gs r d := by
  have h1 := h.gw; have h2 := h.ws
  exact { h with z := h.z.nx hN (by omega), s := h.s.nx hN (by omega), nx := h.nx.trans hN }
theorem S21.src {K : Code} {g : Nat} {w W : World} {Gs : Nat} {r d : Int} (h : S21 K g w W Gs r d) : Src K g W := h.nx.src
theorem S21.put {K : Code} {g : Nat} {w W : World} {Gs : Nat} {r d : Int} (h : S21 K g w W Gs r d) (x : Int) (hx : -1000 ≤ x ∧ x ≤ 1000) : S21 K g w (W.setCell ⟨Gs, 0, none⟩ (.int .i64 x)) Gs x d := by
  have h1 := h.gw; have h2 := h.ws
  exact ⟨h.z.far (by show w.heap.size ≠ Gs; omega) _, by simpa using h.s.set_ 0 (.int .i64 x), h.nx.kept h1 (Nat.le_refl _) ((Below.refl _ _).setCell (p := ⟨Gs, 0, none⟩) (by show w.heap.size ≤ Gs; omega) _), h1, h2, hx, h.hr.2⟩
set_option maxHeartbeats 4000000 in
theorem spec_l21Draw_any (K : Code) (hK : K.Ok) (g : Nat) (w0 : World) (w : World) (hT : Nx K g w0 w) :
    Calls Tryz.prog 74 #[.pointer (some ⟨g, 0, none⟩)] w fun e w' => ∃ r d : Int, e = .returned (.agg #[.int .i64 r, .int .i64 d]) ∧ ((-1000 ≤ r ∧ r ≤ 1000) ∧ (-1000 ≤ d ∧ d ≤ 1000)) ∧ Nx K g w0 w' := by
  have HT0 := Lib.hid hT
  have hgw := hT.src.lt
  have hOw := (Nx.refl hT.src).alloc (.cells #[.int .i64 0, .int .i64 0] 31)
  have HZB := Lib.hid (Blk.new w 31 #[.int .i64 0, .int .i64 0])
  clear hT
  have hT := Nx.refl hOw.src
  go_enter Tryz.func74, Tryz.ntmps74
  go_wp2_with fail
  have HSZ := Lib.hid (show w.heap.size < (w.alloc (.cells #[.int .i64 0, .int .i64 0] 31)).heap.size by simp)
  generalize w.alloc (.cells #[.int .i64 0, .int .i64 0] 31) = Wa at hT hOw HZB HSZ ⊢
  go_upto_region 2 with (first | ((go_at_call 102; refine (spec_l01Next_any K hK g _ _ _ (Nx.refl (Nx.src (by first | exact hT | exact hT.alloc _ | exact (hT.alloc _).alloc _ | exact hT.drew)))).mono ?_; rintro e w3 ⟨x, rfl, ⟨hx0, hx1⟩, hN⟩; have hT := Nx.trans (by first | exact hT | exact hT.alloc _ | exact (hT.alloc _).alloc _ | exact hT.drew) hN); rename Int => q0; have hq0 : 0 ≤ q0 ∧ q0 ≤ 40 := by omega) | ((go_at_call 80; refine (spec_l01Pick_new K hK g _ _ _ _ (by first | exact hT | exact hT.alloc _ | exact (hT.alloc _).alloc _ | exact hT.drew) (by rfl) (by decide) (by decide) (by rfl)).mono ?_; rintro e w3 ⟨x, rfl, hx, hT⟩; simp only [OneOf, Value.int.injEq, true_and, or_false] at hx); first | (have hq9 := hq2; rename Int => q4) | (rename Int => q3)) | (go_at_call 81; refine (spec_l21DrawDeath_any K hK g _ _ (by first | exact hT | exact hT.alloc _ | exact (hT.alloc _).alloc _ | exact hT.drew) ).mono ?_; rintro e w3 ⟨q2, rfl, hq2, hT⟩))
  have HQ := Lib.hid (show S21 K g w (w3.alloc (.cells #[.int .i64 q3, .int .i64 q4] 31)) w3.heap.size q3 q4 from by
    have h1 := HSZ.out
    have h2 := hT.size
    exact ⟨(HZB.out.nx hT (by omega)).alloc _, Blk.new w3 _ _, (hOw.trans hT).alloc _, hgw, by omega, by omega, by omega⟩)
  clear HZB hOw hN hT hx0 hx1 hq0
  clear hx
  generalize w3.alloc (.cells #[.int .i64 q3, .int .i64 q4] 31) = W5 at HQ ⊢
  generalize w3.heap.size = Gs at HQ ⊢
  have hT := Nx.refl HQ.out.src
  go_upto_if 18 with (go_at_call 102; refine (spec_l01Next_any K hK g _ _ _ (by first | exact hT | exact hT.alloc _ | exact (hT.alloc _).alloc _ | exact hT.drew)).mono ?_; rintro e w3 ⟨y, rfl, ⟨hy0, hy1⟩, hTy⟩; have HQ := Lib.hid (HQ.out.nxx hTy); clear hTy; have hT := Nx.refl HQ.out.src)
  go_cut [] (fun wx => ∃ r d : Int, Hid (S21 K g w wx Gs r d))
  case first =>
    go_wp2_with ((go_at_call 80; refine (spec_l01Pick_new K hK g _ _ _ _ (by first | exact hT | exact hT.alloc _ | exact (hT.alloc _).alloc _ | exact hT.drew) (by rfl) (by decide) (by decide) (by rfl)).mono ?_; rintro e w3 ⟨z, rfl, hz, hTy⟩; simp only [OneOf, Value.int.injEq, true_and, or_false] at hz; have HQ := Lib.hid (HQ.out.nxx hTy); clear hTy; have hT := Nx.refl HQ.out.src); have z4 := HQ.out.s.frozen 0; have f4 := HQ.out.s.cell 0)
    · go_meet
      case rel => exact ⟨_, _, Lib.hid (HQ.out.put z (by omega))⟩
    · go_meet
      case rel => exact ⟨_, _, HQ⟩
  case rest =>
    clear HQ hT
    obtain ⟨r, d, HQ⟩ := hcut
    have hcS := Lib.hid (Blk.agg (cs := [.int .i64 r, .int .i64 d]) HQ.out.s 0 [.int .i64 r, .int .i64 d] rfl)
    have zc0 : wc.cell? ⟨w.heap.size, 0, none⟩ = some (.int .i64 0) := HQ.out.z.cell 0
    have zf0 : wc.frozen? ⟨w.heap.size, 0, none⟩ = false := HQ.out.z.frozen 0
    have zc1 : wc.cell? ⟨w.heap.size, 1, none⟩ = some (.int .i64 0) := HQ.out.z.cell 1
    have zf1 : wc.frozen? ⟨w.heap.size, 1, none⟩ = false := HQ.out.z.frozen 1
    go_wp2_with (refine wpList_load_agg rfl 31 _ rfl ⟨Gs, 0, none⟩ rfl [.int .i64 r, .int .i64 d] hcS.out _ Tryz.underlying31 rfl Scenario.size ?_)
    have hz9 : Blk ((wc.setCell ⟨w.heap.size, 0, none⟩ (.int .i64 r)).setCell ⟨w.heap.size, 1, none⟩ (.int .i64 d)) w.heap.size 31 #[.int .i64 r, .int .i64 d] := by simpa using (HQ.out.z.set_ 0 (.int .i64 r)).set_ 1 (.int .i64 d)
    have hb9 := ((Below.refl w.heap.size wc).setCell (p := ⟨w.heap.size, 0, none⟩) (Nat.le_refl _) (.int .i64 r)).setCell (p := ⟨w.heap.size, 1, none⟩) (Nat.le_refl _) (.int .i64 d)
    generalize (wc.setCell ⟨w.heap.size, 0, none⟩ (.int .i64 r)).setCell ⟨w.heap.size, 1, none⟩ (.int .i64 d) = W9 at hz9 hb9 ⊢
    have r0 : W9.cell? ⟨w.heap.size, 0, none⟩ = some (.int .i64 r) := hz9.cell 0
    have r1 : W9.cell? ⟨w.heap.size, 1, none⟩ = some (.int .i64 d) := hz9.cell 1
    refine bodyPost_ret (v := .agg #[.int .i64 r, .int .i64 d]) (by simp [results, Tryz.results74, go_sem, r0, r1]) rfl ?_
    exact ⟨r, d, rfl, HQ.out.hr, HT0.out.trans (HQ.out.nx.kept HQ.out.gw (Nat.le_refl _) hb9)⟩
end Go.Proofs.YtbjdbpdgacfcpaaGreat
end

/- Draws of the arguments of laws on portfolios (printed by drawx.py). -/
section
namespace Go.Proofs.YtbjdbpdgacfcpaaGreat
open Go.RowKit Go.BigFrame

set_option maxRecDepth 100000 in
set_option maxHeartbeats 8000000 in
theorem spec_DrawRequiredReserve_any (K : Code) (hK : K.Ok) (w : World) (hX : Rd w w.heap.size K.A 1 (byteRows K.bs)) :
    Calls Tryz.prog 9 #[.slice K.A K.n K.c] w fun e w' => ∃ (b : Bas) (A : Option Addr) (n c : Nat) (A2 : Option Addr) (k c2 : Nat) (xs : List Holding) (r0 d0 : Int), e = .returned (.tuple #[.agg #[.int .i64 b.first, .slice A n c, .int .i64 b.rate], .slice A2 k c2, .agg #[.int .i64 r0, .int .i64 d0]]) ∧ PB w.heap.size w' b A n c A2 k c2 xs ∧ ((-1000 ≤ r0 ∧ r0 ≤ 1000) ∧ (-1000 ≤ d0 ∧ d0 ≤ 1000)) ∧ Below w.heap.size w w' := by
  have hb0 : Below w.heap.size w ((w.alloc (.cells #[.int .i64 0, .slice none 0 0, .int .i64 0] 28)).alloc (.cells #[.int .i64 0, .int .i64 0] 31)) := ((Below.refl _ w).alloc (by first | exact Nat.le_refl _ | simp) _).alloc (by first | exact Nat.le_refl _ | simp) _
  have HZ0 := Lib.hid ((Blk.new w 28 #[.int .i64 0, .slice none 0 0, .int .i64 0]).alloc (.cells #[.int .i64 0, .int .i64 0] 31))
  have HZ1 := Lib.hid (Blk.new (w.alloc (.cells #[.int .i64 0, .slice none 0 0, .int .i64 0] 28)) 31 #[.int .i64 0, .int .i64 0])
  simp only [World.size_alloc] at HZ1
  have hX := hX.past hb0
  have HBW := Lib.hid hb0; clear hb0
  have HSZ := Lib.hid (show w.heap.size + 2 ≤ ((w.alloc (.cells #[.int .i64 0, .slice none 0 0, .int .i64 0] 28)).alloc (.cells #[.int .i64 0, .int .i64 0] 31)).heap.size by simp)
  go_enter Tryz.func9, Tryz.ntmps9
  go_wp2_with fail
  generalize ((w.alloc (.cells #[.int .i64 0, .slice none 0 0, .int .i64 0] 28)).alloc (.cells #[.int .i64 0, .int .i64 0] 31)) = Wa at HZ0 HZ1 HBW HSZ hX ⊢
  refine (spec_l01From_any K hK _ hX).mono ?_
  rintro e w1 ⟨g, rfl, hg, hb, hS⟩
  clear hX
  have hT := Nx.refl hS
  go_upto_region 3 with (go_at_call 73; refine (spec_l17Draw_pb K hK g _ _ hT).mono ?_; rintro e w2 ⟨b, A1, n1, c1, A2, k, c2, xs, rfl, hP, hT⟩)
  have hsz := HSZ.out
  have hg1 : g < w1.heap.size := hS.lt
  have h12 := hT.size
  have hn0 : w.heap.size ≠ g := by omega
  have hn1 : w.heap.size + 1 ≠ g := by omega
  have hbl : Below w.heap.size w (w2.alloc (.cells #[.int .i64 b.first, .slice A1 n1 c1, .int .i64 b.rate] 28)) := (HBW.out.trans ((hb.mono (by omega)).trans (hT.below.mono (by omega)))).alloc (by have := HBW.out.size; have := hb.size; omega) _
  have HBW := Lib.hid hbl; clear hbl
  have HZ0 := Lib.hid (((HZ0.out.below' hb).nx hT hn0).alloc (.cells #[.int .i64 b.first, .slice A1 n1 c1, .int .i64 b.rate] 28))
  have HZ1 := Lib.hid (((HZ1.out.below' hb).nx hT hn1).alloc (.cells #[.int .i64 b.first, .slice A1 n1 c1, .int .i64 b.rate] 28))
  have HP := Lib.hid (hP.past ((Below.refl w2.heap.size w2).alloc (Nat.le_refl _) (.cells #[.int .i64 b.first, .slice A1 n1 c1, .int .i64 b.rate] 28)))
  have HB := Lib.hid (Blk.new w2 28 #[.int .i64 b.first, .slice A1 n1 c1, .int .i64 b.rate])
  have hS2 := (hT.alloc (.cells #[.int .i64 b.first, .slice A1 n1 c1, .int .i64 b.rate] 28)).src
  have hnb : w2.heap.size ≠ g := by omega
  have hzb : w.heap.size ≠ w2.heap.size := by omega
  clear hP hT hS hb
  generalize w2.alloc (.cells #[.int .i64 b.first, .slice A1 n1 c1, .int .i64 b.rate] 28) = W at HBW HZ0 HZ1 HP HB hS2 ⊢
  generalize w2.heap.size = Gb at HB hnb hzb h12 ⊢
  have HS2 := Lib.hid hS2; clear hS2
  have HN := Lib.hid (Nx.refl HS2.out)
  have hT := HN.out
  have b0 : W.cell? ⟨Gb, 0, none⟩ = some (.int .i64 b.first) := HB.out.cell 0
  have b1 : W.cell? ⟨Gb, 1, none⟩ = some (.slice A1 n1 c1) := HB.out.cell 1
  have b2 : W.cell? ⟨Gb, 2, none⟩ = some (.int .i64 b.rate) := HB.out.cell 2
  go_region_law (go_simp; go_at_call 74; refine (spec_l21Draw_any K hK g _ _ (by first | exact hT | exact hT.drew)).mono ?_; rintro e w3 ⟨r0, d0, rfl, hx0, hT⟩; have b0 : w3.cell? ⟨Gb, 0, none⟩ = some (.int .i64 b.first) := (HB.out.nx hT hnb).cell 0; have b1 : w3.cell? ⟨Gb, 1, none⟩ = some (.slice A1 n1 c1) := (HB.out.nx hT hnb).cell 1; have b2 : w3.cell? ⟨Gb, 2, none⟩ = some (.int .i64 b.rate) := (HB.out.nx hT hnb).cell 2; have zc0 : w3.cell? ⟨w.heap.size, 0, none⟩ = some (.int .i64 0) := (HZ0.out.nx hT hn0).cell 0; have zf0 : w3.frozen? ⟨w.heap.size, 0, none⟩ = false := (HZ0.out.nx hT hn0).frozen 0; have zc1 : w3.cell? ⟨w.heap.size, 1, none⟩ = some (.slice none 0 0) := (HZ0.out.nx hT hn0).cell 1; have zf1 : w3.frozen? ⟨w.heap.size, 1, none⟩ = false := (HZ0.out.nx hT hn0).frozen 1; have zc2 : w3.cell? ⟨w.heap.size, 2, none⟩ = some (.int .i64 0) := (HZ0.out.nx hT hn0).cell 2; have zf2 : w3.frozen? ⟨w.heap.size, 2, none⟩ = false := (HZ0.out.nx hT hn0).frozen 2; have yc0 : w3.cell? ⟨w.heap.size + 1, 0, none⟩ = some (.int .i64 0) := (HZ1.out.nx hT hn1).cell 0; have yf0 : w3.frozen? ⟨w.heap.size + 1, 0, none⟩ = false := (HZ1.out.nx hT hn1).frozen 0; have yc1 : w3.cell? ⟨w.heap.size + 1, 1, none⟩ = some (.int .i64 0) := (HZ1.out.nx hT hn1).cell 1; have yf1 : w3.frozen? ⟨w.heap.size + 1, 1, none⟩ = false := (HZ1.out.nx hT hn1).frozen 1)
  all_goals
    have hz9 : Blk (((((w3.setCell ⟨w.heap.size, 0, none⟩ (.int .i64 b.first)).setCell ⟨w.heap.size, 1, none⟩ (.slice A1 n1 c1)).setCell ⟨w.heap.size, 2, none⟩ (.int .i64 b.rate)).setCell ⟨w.heap.size + 1, 0, none⟩ (.int .i64 r0)).setCell ⟨w.heap.size + 1, 1, none⟩ (.int .i64 d0)) w.heap.size 28 #[.int .i64 b.first, .slice A1 n1 c1, .int .i64 b.rate] := by simpa using ((((((HZ0.out.nx hT hn0).set_ 0 (.int .i64 b.first)).set_ 1 (.slice A1 n1 c1)).set_ 2 (.int .i64 b.rate)).far (by show w.heap.size ≠ w.heap.size + 1; omega) (.int .i64 r0)).far (by show w.heap.size ≠ w.heap.size + 1; omega) (.int .i64 d0))
    have hy9 : Blk (((((w3.setCell ⟨w.heap.size, 0, none⟩ (.int .i64 b.first)).setCell ⟨w.heap.size, 1, none⟩ (.slice A1 n1 c1)).setCell ⟨w.heap.size, 2, none⟩ (.int .i64 b.rate)).setCell ⟨w.heap.size + 1, 0, none⟩ (.int .i64 r0)).setCell ⟨w.heap.size + 1, 1, none⟩ (.int .i64 d0)) (w.heap.size + 1) 31 #[.int .i64 r0, .int .i64 d0] := by simpa using ((((((HZ1.out.nx hT hn1).far (by show w.heap.size + 1 ≠ w.heap.size; omega) (.int .i64 b.first)).far (by show w.heap.size + 1 ≠ w.heap.size; omega) (.slice A1 n1 c1)).far (by show w.heap.size + 1 ≠ w.heap.size; omega) (.int .i64 b.rate)).set_ 0 (.int .i64 r0)).set_ 1 (.int .i64 d0))
    have hb9 : Below w.heap.size w (((((w3.setCell ⟨w.heap.size, 0, none⟩ (.int .i64 b.first)).setCell ⟨w.heap.size, 1, none⟩ (.slice A1 n1 c1)).setCell ⟨w.heap.size, 2, none⟩ (.int .i64 b.rate)).setCell ⟨w.heap.size + 1, 0, none⟩ (.int .i64 r0)).setCell ⟨w.heap.size + 1, 1, none⟩ (.int .i64 d0)) := ((((((HBW.out.trans (hT.below.mono (by omega))).setCell (p := ⟨w.heap.size, 0, none⟩) (by show w.heap.size ≤ w.heap.size; omega) (.int .i64 b.first)).setCell (p := ⟨w.heap.size, 1, none⟩) (by show w.heap.size ≤ w.heap.size; omega) (.slice A1 n1 c1)).setCell (p := ⟨w.heap.size, 2, none⟩) (by show w.heap.size ≤ w.heap.size; omega) (.int .i64 b.rate)).setCell (p := ⟨w.heap.size + 1, 0, none⟩) (by show w.heap.size ≤ w.heap.size + 1; omega) (.int .i64 r0)).setCell (p := ⟨w.heap.size + 1, 1, none⟩) (by show w.heap.size ≤ w.heap.size + 1; omega) (.int .i64 d0))
    have hp9 : PB w1.heap.size (((((w3.setCell ⟨w.heap.size, 0, none⟩ (.int .i64 b.first)).setCell ⟨w.heap.size, 1, none⟩ (.slice A1 n1 c1)).setCell ⟨w.heap.size, 2, none⟩ (.int .i64 b.rate)).setCell ⟨w.heap.size + 1, 0, none⟩ (.int .i64 r0)).setCell ⟨w.heap.size + 1, 1, none⟩ (.int .i64 d0)) b A1 n1 c1 A2 k c2 xs := ((((((HP.out.nxx hT hg1).low (show w.heap.size < w1.heap.size by omega) 0 (.int .i64 b.first)).low (show w.heap.size < w1.heap.size by omega) 1 (.slice A1 n1 c1)).low (show w.heap.size < w1.heap.size by omega) 2 (.int .i64 b.rate)).low (show w.heap.size + 1 < w1.heap.size by omega) 0 (.int .i64 r0)).low (show w.heap.size + 1 < w1.heap.size by omega) 1 (.int .i64 d0))
    clear zc0 zf0 zc1 zf1 zc2 zf2 yc0 yf0 yc1 yf1
    generalize (((((w3.setCell ⟨w.heap.size, 0, none⟩ (.int .i64 b.first)).setCell ⟨w.heap.size, 1, none⟩ (.slice A1 n1 c1)).setCell ⟨w.heap.size, 2, none⟩ (.int .i64 b.rate)).setCell ⟨w.heap.size + 1, 0, none⟩ (.int .i64 r0)).setCell ⟨w.heap.size + 1, 1, none⟩ (.int .i64 d0)) = W9 at hz9 hy9 hb9 hp9 ⊢
    have q0 : W9.cell? ⟨w.heap.size, 0, none⟩ = some (.int .i64 b.first) := hz9.cell 0
    have q1 : W9.cell? ⟨w.heap.size, 1, none⟩ = some (.slice A1 n1 c1) := hz9.cell 1
    have q2 : W9.cell? ⟨w.heap.size, 2, none⟩ = some (.int .i64 b.rate) := hz9.cell 2
    have p0 : W9.cell? ⟨w.heap.size + 1, 0, none⟩ = some (.int .i64 r0) := hy9.cell 0
    have p1 : W9.cell? ⟨w.heap.size + 1, 1, none⟩ = some (.int .i64 d0) := hy9.cell 1
    have HP9 := Lib.hid hp9; have HB9 := Lib.hid hb9; clear hp9 hb9
    go_wp2_with fail
    refine bodyPost_ret (v := .tuple #[.agg #[.int .i64 b.first, .slice A1 n1 c1, .int .i64 b.rate], .slice A2 k c2, .agg #[.int .i64 r0, .int .i64 d0]]) (by simp [results, Tryz.results9, go_sem, q0, q1, q2, p0, p1]) rfl ?_
    exact ⟨b, A1, n1, c1, A2, k, c2, xs, r0, d0, rfl, HP9.out.more (by omega), hx0, HB9.out⟩
set_option maxRecDepth 100000 in
set_option maxHeartbeats 8000000 in
theorem spec_DrawSolvencyRate_any (K : Code) (hK : K.Ok) (w : World) (hX : Rd w w.heap.size K.A 1 (byteRows K.bs)) :
    Calls Tryz.prog 99 #[.slice K.A K.n K.c] w fun e w' => ∃ (b : Bas) (A : Option Addr) (n c : Nat) (A2 : Option Addr) (k c2 : Nat) (xs : List Holding) (r0 d0 x1 : Int), e = .returned (.tuple #[.agg #[.int .i64 b.first, .slice A n c, .int .i64 b.rate], .slice A2 k c2, .agg #[.int .i64 r0, .int .i64 d0], .int .i64 x1]) ∧ PB w.heap.size w' b A n c A2 k c2 xs ∧ ((-1000 ≤ r0 ∧ r0 ≤ 1000) ∧ (-1000 ≤ d0 ∧ d0 ≤ 1000)) ∧ (-1 ≤ x1 ∧ x1 ≤ 1000000000001) ∧ Below w.heap.size w w' := by
  have hb0 : Below w.heap.size w ((w.alloc (.cells #[.int .i64 0, .slice none 0 0, .int .i64 0] 28)).alloc (.cells #[.int .i64 0, .int .i64 0] 31)) := ((Below.refl _ w).alloc (by first | exact Nat.le_refl _ | simp) _).alloc (by first | exact Nat.le_refl _ | simp) _
  have HZ0 := Lib.hid ((Blk.new w 28 #[.int .i64 0, .slice none 0 0, .int .i64 0]).alloc (.cells #[.int .i64 0, .int .i64 0] 31))
  have HZ1 := Lib.hid (Blk.new (w.alloc (.cells #[.int .i64 0, .slice none 0 0, .int .i64 0] 28)) 31 #[.int .i64 0, .int .i64 0])
  simp only [World.size_alloc] at HZ1
  have hX := hX.past hb0
  have HBW := Lib.hid hb0; clear hb0
  have HSZ := Lib.hid (show w.heap.size + 2 ≤ ((w.alloc (.cells #[.int .i64 0, .slice none 0 0, .int .i64 0] 28)).alloc (.cells #[.int .i64 0, .int .i64 0] 31)).heap.size by simp)
  go_enter Tryz.func99, Tryz.ntmps99
  go_wp2_with fail
  generalize ((w.alloc (.cells #[.int .i64 0, .slice none 0 0, .int .i64 0] 28)).alloc (.cells #[.int .i64 0, .int .i64 0] 31)) = Wa at HZ0 HZ1 HBW HSZ hX ⊢
  refine (spec_l01From_any K hK _ hX).mono ?_
  rintro e w1 ⟨g, rfl, hg, hb, hS⟩
  clear hX
  have hT := Nx.refl hS
  go_upto_region 3 with (go_at_call 73; refine (spec_l17Draw_pb K hK g _ _ hT).mono ?_; rintro e w2 ⟨b, A1, n1, c1, A2, k, c2, xs, rfl, hP, hT⟩)
  have hsz := HSZ.out
  have hg1 : g < w1.heap.size := hS.lt
  have h12 := hT.size
  have hn0 : w.heap.size ≠ g := by omega
  have hn1 : w.heap.size + 1 ≠ g := by omega
  have hbl : Below w.heap.size w (w2.alloc (.cells #[.int .i64 b.first, .slice A1 n1 c1, .int .i64 b.rate] 28)) := (HBW.out.trans ((hb.mono (by omega)).trans (hT.below.mono (by omega)))).alloc (by have := HBW.out.size; have := hb.size; omega) _
  have HBW := Lib.hid hbl; clear hbl
  have HZ0 := Lib.hid (((HZ0.out.below' hb).nx hT hn0).alloc (.cells #[.int .i64 b.first, .slice A1 n1 c1, .int .i64 b.rate] 28))
  have HZ1 := Lib.hid (((HZ1.out.below' hb).nx hT hn1).alloc (.cells #[.int .i64 b.first, .slice A1 n1 c1, .int .i64 b.rate] 28))
  have HP := Lib.hid (hP.past ((Below.refl w2.heap.size w2).alloc (Nat.le_refl _) (.cells #[.int .i64 b.first, .slice A1 n1 c1, .int .i64 b.rate] 28)))
  have HB := Lib.hid (Blk.new w2 28 #[.int .i64 b.first, .slice A1 n1 c1, .int .i64 b.rate])
  have hS2 := (hT.alloc (.cells #[.int .i64 b.first, .slice A1 n1 c1, .int .i64 b.rate] 28)).src
  have hnb : w2.heap.size ≠ g := by omega
  have hzb : w.heap.size ≠ w2.heap.size := by omega
  clear hP hT hS hb
  generalize w2.alloc (.cells #[.int .i64 b.first, .slice A1 n1 c1, .int .i64 b.rate] 28) = W at HBW HZ0 HZ1 HP HB hS2 ⊢
  generalize w2.heap.size = Gb at HB hnb hzb h12 ⊢
  have HS2 := Lib.hid hS2; clear hS2
  have HN := Lib.hid (Nx.refl HS2.out)
  have hT := HN.out
  have b0 : W.cell? ⟨Gb, 0, none⟩ = some (.int .i64 b.first) := HB.out.cell 0
  have b1 : W.cell? ⟨Gb, 1, none⟩ = some (.slice A1 n1 c1) := HB.out.cell 1
  have b2 : W.cell? ⟨Gb, 2, none⟩ = some (.int .i64 b.rate) := HB.out.cell 2
  go_region_law (first | (go_simp; go_at_call 74; refine (spec_l21Draw_any K hK g _ _ (by first | exact hT | exact hT.drew)).mono ?_; rintro e w3 ⟨r0, d0, rfl, hx0, hT⟩; have b0 : w3.cell? ⟨Gb, 0, none⟩ = some (.int .i64 b.first) := (HB.out.nx hT hnb).cell 0; have b1 : w3.cell? ⟨Gb, 1, none⟩ = some (.slice A1 n1 c1) := (HB.out.nx hT hnb).cell 1; have b2 : w3.cell? ⟨Gb, 2, none⟩ = some (.int .i64 b.rate) := (HB.out.nx hT hnb).cell 2; have zc0 : w3.cell? ⟨w.heap.size, 0, none⟩ = some (.int .i64 0) := (HZ0.out.nx hT hn0).cell 0; have zf0 : w3.frozen? ⟨w.heap.size, 0, none⟩ = false := (HZ0.out.nx hT hn0).frozen 0; have zc1 : w3.cell? ⟨w.heap.size, 1, none⟩ = some (.slice none 0 0) := (HZ0.out.nx hT hn0).cell 1; have zf1 : w3.frozen? ⟨w.heap.size, 1, none⟩ = false := (HZ0.out.nx hT hn0).frozen 1; have zc2 : w3.cell? ⟨w.heap.size, 2, none⟩ = some (.int .i64 0) := (HZ0.out.nx hT hn0).cell 2; have zf2 : w3.frozen? ⟨w.heap.size, 2, none⟩ = false := (HZ0.out.nx hT hn0).frozen 2; have yc0 : w3.cell? ⟨w.heap.size + 1, 0, none⟩ = some (.int .i64 0) := (HZ1.out.nx hT hn1).cell 0; have yf0 : w3.frozen? ⟨w.heap.size + 1, 0, none⟩ = false := (HZ1.out.nx hT hn1).frozen 0; have yc1 : w3.cell? ⟨w.heap.size + 1, 1, none⟩ = some (.int .i64 0) := (HZ1.out.nx hT hn1).cell 1; have yf1 : w3.frozen? ⟨w.heap.size + 1, 1, none⟩ = false := (HZ1.out.nx hT hn1).frozen 1) | (go_simp; go_at_call 105; refine (spec_l21DrawFund_any K hK g _ _ (by first | exact hT | exact hT.drew)).mono ?_; rintro e w3 ⟨x1, rfl, hx1, hT⟩; have b0 : w3.cell? ⟨Gb, 0, none⟩ = some (.int .i64 b.first) := (HB.out.nx hT hnb).cell 0; have b1 : w3.cell? ⟨Gb, 1, none⟩ = some (.slice A1 n1 c1) := (HB.out.nx hT hnb).cell 1; have b2 : w3.cell? ⟨Gb, 2, none⟩ = some (.int .i64 b.rate) := (HB.out.nx hT hnb).cell 2; have zc0 : w3.cell? ⟨w.heap.size, 0, none⟩ = some (.int .i64 0) := (HZ0.out.nx hT hn0).cell 0; have zf0 : w3.frozen? ⟨w.heap.size, 0, none⟩ = false := (HZ0.out.nx hT hn0).frozen 0; have zc1 : w3.cell? ⟨w.heap.size, 1, none⟩ = some (.slice none 0 0) := (HZ0.out.nx hT hn0).cell 1; have zf1 : w3.frozen? ⟨w.heap.size, 1, none⟩ = false := (HZ0.out.nx hT hn0).frozen 1; have zc2 : w3.cell? ⟨w.heap.size, 2, none⟩ = some (.int .i64 0) := (HZ0.out.nx hT hn0).cell 2; have zf2 : w3.frozen? ⟨w.heap.size, 2, none⟩ = false := (HZ0.out.nx hT hn0).frozen 2; have yc0 : w3.cell? ⟨w.heap.size + 1, 0, none⟩ = some (.int .i64 0) := (HZ1.out.nx hT hn1).cell 0; have yf0 : w3.frozen? ⟨w.heap.size + 1, 0, none⟩ = false := (HZ1.out.nx hT hn1).frozen 0; have yc1 : w3.cell? ⟨w.heap.size + 1, 1, none⟩ = some (.int .i64 0) := (HZ1.out.nx hT hn1).cell 1; have yf1 : w3.frozen? ⟨w.heap.size + 1, 1, none⟩ = false := (HZ1.out.nx hT hn1).frozen 1))
  all_goals
    have hz9 : Blk (((((w3.setCell ⟨w.heap.size, 0, none⟩ (.int .i64 b.first)).setCell ⟨w.heap.size, 1, none⟩ (.slice A1 n1 c1)).setCell ⟨w.heap.size, 2, none⟩ (.int .i64 b.rate)).setCell ⟨w.heap.size + 1, 0, none⟩ (.int .i64 r0)).setCell ⟨w.heap.size + 1, 1, none⟩ (.int .i64 d0)) w.heap.size 28 #[.int .i64 b.first, .slice A1 n1 c1, .int .i64 b.rate] := by simpa using ((((((HZ0.out.nx hT hn0).set_ 0 (.int .i64 b.first)).set_ 1 (.slice A1 n1 c1)).set_ 2 (.int .i64 b.rate)).far (by show w.heap.size ≠ w.heap.size + 1; omega) (.int .i64 r0)).far (by show w.heap.size ≠ w.heap.size + 1; omega) (.int .i64 d0))
    have hy9 : Blk (((((w3.setCell ⟨w.heap.size, 0, none⟩ (.int .i64 b.first)).setCell ⟨w.heap.size, 1, none⟩ (.slice A1 n1 c1)).setCell ⟨w.heap.size, 2, none⟩ (.int .i64 b.rate)).setCell ⟨w.heap.size + 1, 0, none⟩ (.int .i64 r0)).setCell ⟨w.heap.size + 1, 1, none⟩ (.int .i64 d0)) (w.heap.size + 1) 31 #[.int .i64 r0, .int .i64 d0] := by simpa using ((((((HZ1.out.nx hT hn1).far (by show w.heap.size + 1 ≠ w.heap.size; omega) (.int .i64 b.first)).far (by show w.heap.size + 1 ≠ w.heap.size; omega) (.slice A1 n1 c1)).far (by show w.heap.size + 1 ≠ w.heap.size; omega) (.int .i64 b.rate)).set_ 0 (.int .i64 r0)).set_ 1 (.int .i64 d0))
    have hb9 : Below w.heap.size w (((((w3.setCell ⟨w.heap.size, 0, none⟩ (.int .i64 b.first)).setCell ⟨w.heap.size, 1, none⟩ (.slice A1 n1 c1)).setCell ⟨w.heap.size, 2, none⟩ (.int .i64 b.rate)).setCell ⟨w.heap.size + 1, 0, none⟩ (.int .i64 r0)).setCell ⟨w.heap.size + 1, 1, none⟩ (.int .i64 d0)) := ((((((HBW.out.trans (hT.below.mono (by omega))).setCell (p := ⟨w.heap.size, 0, none⟩) (by show w.heap.size ≤ w.heap.size; omega) (.int .i64 b.first)).setCell (p := ⟨w.heap.size, 1, none⟩) (by show w.heap.size ≤ w.heap.size; omega) (.slice A1 n1 c1)).setCell (p := ⟨w.heap.size, 2, none⟩) (by show w.heap.size ≤ w.heap.size; omega) (.int .i64 b.rate)).setCell (p := ⟨w.heap.size + 1, 0, none⟩) (by show w.heap.size ≤ w.heap.size + 1; omega) (.int .i64 r0)).setCell (p := ⟨w.heap.size + 1, 1, none⟩) (by show w.heap.size ≤ w.heap.size + 1; omega) (.int .i64 d0))
    have hp9 : PB w1.heap.size (((((w3.setCell ⟨w.heap.size, 0, none⟩ (.int .i64 b.first)).setCell ⟨w.heap.size, 1, none⟩ (.slice A1 n1 c1)).setCell ⟨w.heap.size, 2, none⟩ (.int .i64 b.rate)).setCell ⟨w.heap.size + 1, 0, none⟩ (.int .i64 r0)).setCell ⟨w.heap.size + 1, 1, none⟩ (.int .i64 d0)) b A1 n1 c1 A2 k c2 xs := ((((((HP.out.nxx hT hg1).low (show w.heap.size < w1.heap.size by omega) 0 (.int .i64 b.first)).low (show w.heap.size < w1.heap.size by omega) 1 (.slice A1 n1 c1)).low (show w.heap.size < w1.heap.size by omega) 2 (.int .i64 b.rate)).low (show w.heap.size + 1 < w1.heap.size by omega) 0 (.int .i64 r0)).low (show w.heap.size + 1 < w1.heap.size by omega) 1 (.int .i64 d0))
    clear zc0 zf0 zc1 zf1 zc2 zf2 yc0 yf0 yc1 yf1
    generalize (((((w3.setCell ⟨w.heap.size, 0, none⟩ (.int .i64 b.first)).setCell ⟨w.heap.size, 1, none⟩ (.slice A1 n1 c1)).setCell ⟨w.heap.size, 2, none⟩ (.int .i64 b.rate)).setCell ⟨w.heap.size + 1, 0, none⟩ (.int .i64 r0)).setCell ⟨w.heap.size + 1, 1, none⟩ (.int .i64 d0)) = W9 at hz9 hy9 hb9 hp9 ⊢
    have q0 : W9.cell? ⟨w.heap.size, 0, none⟩ = some (.int .i64 b.first) := hz9.cell 0
    have q1 : W9.cell? ⟨w.heap.size, 1, none⟩ = some (.slice A1 n1 c1) := hz9.cell 1
    have q2 : W9.cell? ⟨w.heap.size, 2, none⟩ = some (.int .i64 b.rate) := hz9.cell 2
    have p0 : W9.cell? ⟨w.heap.size + 1, 0, none⟩ = some (.int .i64 r0) := hy9.cell 0
    have p1 : W9.cell? ⟨w.heap.size + 1, 1, none⟩ = some (.int .i64 d0) := hy9.cell 1
    have HP9 := Lib.hid hp9; have HB9 := Lib.hid hb9; clear hp9 hb9
    go_wp2_with fail
    refine bodyPost_ret (v := .tuple #[.agg #[.int .i64 b.first, .slice A1 n1 c1, .int .i64 b.rate], .slice A2 k c2, .agg #[.int .i64 r0, .int .i64 d0], .int .i64 x1]) (by simp [results, Tryz.results99, go_sem, q0, q1, q2, p0, p1]) rfl ?_
    exact ⟨b, A1, n1, c1, A2, k, c2, xs, r0, d0, x1, rfl, HP9.out.more (by omega), hx0, hx1, HB9.out⟩
set_option maxRecDepth 100000 in
set_option maxHeartbeats 8000000 in
theorem spec_DrawBonusRate_any (K : Code) (hK : K.Ok) (w : World) (hX : Rd w w.heap.size K.A 1 (byteRows K.bs)) :
    Calls Tryz.prog 66 #[.slice K.A K.n K.c] w fun e w' => ∃ (b : Bas) (A : Option Addr) (n c : Nat) (A2 : Option Addr) (k c2 : Nat) (xs : List Holding) (x0 : Int), e = .returned (.tuple #[.agg #[.int .i64 b.first, .slice A n c, .int .i64 b.rate], .slice A2 k c2, .int .i64 x0]) ∧ PB w.heap.size w' b A n c A2 k c2 xs ∧ (-1 ≤ x0 ∧ x0 ≤ 1000000001) ∧ Below w.heap.size w w' := by
  have hb0 : Below w.heap.size w (w.alloc (.cells #[.int .i64 0, .slice none 0 0, .int .i64 0] 28)) := (Below.refl _ w).alloc (by first | exact Nat.le_refl _ | simp) _
  have HZ0 := Lib.hid (Blk.new w 28 #[.int .i64 0, .slice none 0 0, .int .i64 0])
  have hX := hX.past hb0
  have HBW := Lib.hid hb0; clear hb0
  have HSZ := Lib.hid (show w.heap.size + 1 ≤ (w.alloc (.cells #[.int .i64 0, .slice none 0 0, .int .i64 0] 28)).heap.size by simp)
  go_enter Tryz.func66, Tryz.ntmps66
  go_wp2_with fail
  generalize (w.alloc (.cells #[.int .i64 0, .slice none 0 0, .int .i64 0] 28)) = Wa at HZ0 HBW HSZ hX ⊢
  refine (spec_l01From_any K hK _ hX).mono ?_
  rintro e w1 ⟨g, rfl, hg, hb, hS⟩
  clear hX
  have hT := Nx.refl hS
  go_upto_region 3 with (go_at_call 73; refine (spec_l17Draw_pb K hK g _ _ hT).mono ?_; rintro e w2 ⟨b, A1, n1, c1, A2, k, c2, xs, rfl, hP, hT⟩)
  have hsz := HSZ.out
  have hg1 : g < w1.heap.size := hS.lt
  have h12 := hT.size
  have hn0 : w.heap.size ≠ g := by omega
  have hbl : Below w.heap.size w (w2.alloc (.cells #[.int .i64 b.first, .slice A1 n1 c1, .int .i64 b.rate] 28)) := (HBW.out.trans ((hb.mono (by omega)).trans (hT.below.mono (by omega)))).alloc (by have := HBW.out.size; have := hb.size; omega) _
  have HBW := Lib.hid hbl; clear hbl
  have HZ0 := Lib.hid (((HZ0.out.below' hb).nx hT hn0).alloc (.cells #[.int .i64 b.first, .slice A1 n1 c1, .int .i64 b.rate] 28))
  have HP := Lib.hid (hP.past ((Below.refl w2.heap.size w2).alloc (Nat.le_refl _) (.cells #[.int .i64 b.first, .slice A1 n1 c1, .int .i64 b.rate] 28)))
  have HB := Lib.hid (Blk.new w2 28 #[.int .i64 b.first, .slice A1 n1 c1, .int .i64 b.rate])
  have hS2 := (hT.alloc (.cells #[.int .i64 b.first, .slice A1 n1 c1, .int .i64 b.rate] 28)).src
  have hnb : w2.heap.size ≠ g := by omega
  have hzb : w.heap.size ≠ w2.heap.size := by omega
  clear hP hT hS hb
  generalize w2.alloc (.cells #[.int .i64 b.first, .slice A1 n1 c1, .int .i64 b.rate] 28) = W at HBW HZ0 HP HB hS2 ⊢
  generalize w2.heap.size = Gb at HB hnb hzb h12 ⊢
  have HS2 := Lib.hid hS2; clear hS2
  have HN := Lib.hid (Nx.refl HS2.out)
  have hT := HN.out
  have b0 : W.cell? ⟨Gb, 0, none⟩ = some (.int .i64 b.first) := HB.out.cell 0
  have b1 : W.cell? ⟨Gb, 1, none⟩ = some (.slice A1 n1 c1) := HB.out.cell 1
  have b2 : W.cell? ⟨Gb, 2, none⟩ = some (.int .i64 b.rate) := HB.out.cell 2
  go_region_law (go_simp; go_at_call 130; refine (spec_l19DrawAmount_any K hK g _ _ (by first | exact hT | exact hT.drew)).mono ?_; rintro e w3 ⟨x0, rfl, hx0, hT⟩; have b0 : w3.cell? ⟨Gb, 0, none⟩ = some (.int .i64 b.first) := (HB.out.nx hT hnb).cell 0; have b1 : w3.cell? ⟨Gb, 1, none⟩ = some (.slice A1 n1 c1) := (HB.out.nx hT hnb).cell 1; have b2 : w3.cell? ⟨Gb, 2, none⟩ = some (.int .i64 b.rate) := (HB.out.nx hT hnb).cell 2; have zc0 : w3.cell? ⟨w.heap.size, 0, none⟩ = some (.int .i64 0) := (HZ0.out.nx hT hn0).cell 0; have zf0 : w3.frozen? ⟨w.heap.size, 0, none⟩ = false := (HZ0.out.nx hT hn0).frozen 0; have zc1 : w3.cell? ⟨w.heap.size, 1, none⟩ = some (.slice none 0 0) := (HZ0.out.nx hT hn0).cell 1; have zf1 : w3.frozen? ⟨w.heap.size, 1, none⟩ = false := (HZ0.out.nx hT hn0).frozen 1; have zc2 : w3.cell? ⟨w.heap.size, 2, none⟩ = some (.int .i64 0) := (HZ0.out.nx hT hn0).cell 2; have zf2 : w3.frozen? ⟨w.heap.size, 2, none⟩ = false := (HZ0.out.nx hT hn0).frozen 2)
  all_goals
    have hz9 : Blk (((w3.setCell ⟨w.heap.size, 0, none⟩ (.int .i64 b.first)).setCell ⟨w.heap.size, 1, none⟩ (.slice A1 n1 c1)).setCell ⟨w.heap.size, 2, none⟩ (.int .i64 b.rate)) w.heap.size 28 #[.int .i64 b.first, .slice A1 n1 c1, .int .i64 b.rate] := by simpa using ((((HZ0.out.nx hT hn0).set_ 0 (.int .i64 b.first)).set_ 1 (.slice A1 n1 c1)).set_ 2 (.int .i64 b.rate))
    have hb9 : Below w.heap.size w (((w3.setCell ⟨w.heap.size, 0, none⟩ (.int .i64 b.first)).setCell ⟨w.heap.size, 1, none⟩ (.slice A1 n1 c1)).setCell ⟨w.heap.size, 2, none⟩ (.int .i64 b.rate)) := ((((HBW.out.trans (hT.below.mono (by omega))).setCell (p := ⟨w.heap.size, 0, none⟩) (by show w.heap.size ≤ w.heap.size; omega) (.int .i64 b.first)).setCell (p := ⟨w.heap.size, 1, none⟩) (by show w.heap.size ≤ w.heap.size; omega) (.slice A1 n1 c1)).setCell (p := ⟨w.heap.size, 2, none⟩) (by show w.heap.size ≤ w.heap.size; omega) (.int .i64 b.rate))
    have hp9 : PB w1.heap.size (((w3.setCell ⟨w.heap.size, 0, none⟩ (.int .i64 b.first)).setCell ⟨w.heap.size, 1, none⟩ (.slice A1 n1 c1)).setCell ⟨w.heap.size, 2, none⟩ (.int .i64 b.rate)) b A1 n1 c1 A2 k c2 xs := ((((HP.out.nxx hT hg1).low (show w.heap.size < w1.heap.size by omega) 0 (.int .i64 b.first)).low (show w.heap.size < w1.heap.size by omega) 1 (.slice A1 n1 c1)).low (show w.heap.size < w1.heap.size by omega) 2 (.int .i64 b.rate))
    clear zc0 zf0 zc1 zf1 zc2 zf2
    generalize (((w3.setCell ⟨w.heap.size, 0, none⟩ (.int .i64 b.first)).setCell ⟨w.heap.size, 1, none⟩ (.slice A1 n1 c1)).setCell ⟨w.heap.size, 2, none⟩ (.int .i64 b.rate)) = W9 at hz9 hb9 hp9 ⊢
    have q0 : W9.cell? ⟨w.heap.size, 0, none⟩ = some (.int .i64 b.first) := hz9.cell 0
    have q1 : W9.cell? ⟨w.heap.size, 1, none⟩ = some (.slice A1 n1 c1) := hz9.cell 1
    have q2 : W9.cell? ⟨w.heap.size, 2, none⟩ = some (.int .i64 b.rate) := hz9.cell 2
    have HP9 := Lib.hid hp9; have HB9 := Lib.hid hb9; clear hp9 hb9
    go_wp2_with fail
    refine bodyPost_ret (v := .tuple #[.agg #[.int .i64 b.first, .slice A1 n1 c1, .int .i64 b.rate], .slice A2 k c2, .int .i64 x0]) (by simp [results, Tryz.results66, go_sem, q0, q1, q2]) rfl ?_
    exact ⟨b, A1, n1, c1, A2, k, c2, xs, x0, rfl, HP9.out.more (by omega), hx0, HB9.out⟩
end Go.Proofs.YtbjdbpdgacfcpaaGreat
end

/- Draws of the arguments of laws on portfolios (printed by drawx.py). -/
section
namespace Go.Proofs.YtbjdbpdgacfcpaaGreat
open Go.RowKit Go.BigFrame

set_option maxRecDepth 100000 in
set_option maxHeartbeats 8000000 in
theorem spec_DrawMissingMoney_any (K : Code) (hK : K.Ok) (w : World) (hX : Rd w w.heap.size K.A 1 (byteRows K.bs)) :
    Calls Tryz.prog 23 #[.slice K.A K.n K.c] w fun e w' => ∃ (b : Bas) (A : Option Addr) (n c : Nat) (A2 : Option Addr) (k c2 : Nat) (xs : List Holding) (r0 d0 x1 : Int), e = .returned (.tuple #[.agg #[.int .i64 b.first, .slice A n c, .int .i64 b.rate], .slice A2 k c2, .agg #[.int .i64 r0, .int .i64 d0], .int .i64 x1]) ∧ PB w.heap.size w' b A n c A2 k c2 xs ∧ ((-1000 ≤ r0 ∧ r0 ≤ 1000) ∧ (-1000 ≤ d0 ∧ d0 ≤ 1000)) ∧ (-1 ≤ x1 ∧ x1 ≤ 1000000000001) ∧ Below w.heap.size w w' := by
  have hb0 : Below w.heap.size w ((w.alloc (.cells #[.int .i64 0, .slice none 0 0, .int .i64 0] 28)).alloc (.cells #[.int .i64 0, .int .i64 0] 31)) := ((Below.refl _ w).alloc (by first | exact Nat.le_refl _ | simp) _).alloc (by first | exact Nat.le_refl _ | simp) _
  have HZ0 := Lib.hid ((Blk.new w 28 #[.int .i64 0, .slice none 0 0, .int .i64 0]).alloc (.cells #[.int .i64 0, .int .i64 0] 31))
  have HZ1 := Lib.hid (Blk.new (w.alloc (.cells #[.int .i64 0, .slice none 0 0, .int .i64 0] 28)) 31 #[.int .i64 0, .int .i64 0])
  simp only [World.size_alloc] at HZ1
  have hX := hX.past hb0
  have HBW := Lib.hid hb0; clear hb0
  have HSZ := Lib.hid (show w.heap.size + 2 ≤ ((w.alloc (.cells #[.int .i64 0, .slice none 0 0, .int .i64 0] 28)).alloc (.cells #[.int .i64 0, .int .i64 0] 31)).heap.size by simp)
  go_enter Tryz.func23, Tryz.ntmps23
  go_wp2_with fail
  generalize ((w.alloc (.cells #[.int .i64 0, .slice none 0 0, .int .i64 0] 28)).alloc (.cells #[.int .i64 0, .int .i64 0] 31)) = Wa at HZ0 HZ1 HBW HSZ hX ⊢
  refine (spec_DrawSolvencyRate_any K hK _ hX).mono ?_
  rintro e w3 ⟨b, A1, n1, c1, A2, k, c2, xs, r0, d0, x1, rfl, hP, hx0, hx1, hb⟩
  clear hX
  have hsz := HSZ.out
  have HP := Lib.hid hP; clear hP
  have HBW := Lib.hid (HBW.out.trans (hb.mono (by omega)))
  have HZ0 := Lib.hid (HZ0.out.below' hb)
  have HZ1 := Lib.hid (HZ1.out.below' hb)
  clear hb
  have zc0 : w3.cell? ⟨w.heap.size, 0, none⟩ = some (.int .i64 0) := HZ0.out.cell 0
  have zf0 : w3.frozen? ⟨w.heap.size, 0, none⟩ = false := HZ0.out.frozen 0
  have zc1 : w3.cell? ⟨w.heap.size, 1, none⟩ = some (.slice none 0 0) := HZ0.out.cell 1
  have zf1 : w3.frozen? ⟨w.heap.size, 1, none⟩ = false := HZ0.out.frozen 1
  have zc2 : w3.cell? ⟨w.heap.size, 2, none⟩ = some (.int .i64 0) := HZ0.out.cell 2
  have zf2 : w3.frozen? ⟨w.heap.size, 2, none⟩ = false := HZ0.out.frozen 2
  have yc0 : w3.cell? ⟨w.heap.size + 1, 0, none⟩ = some (.int .i64 0) := HZ1.out.cell 0
  have yf0 : w3.frozen? ⟨w.heap.size + 1, 0, none⟩ = false := HZ1.out.frozen 0
  have yc1 : w3.cell? ⟨w.heap.size + 1, 1, none⟩ = some (.int .i64 0) := HZ1.out.cell 1
  have yf1 : w3.frozen? ⟨w.heap.size + 1, 1, none⟩ = false := HZ1.out.frozen 1
  go_wp2_with fail
  have hz9 : Blk (((((w3.setCell ⟨w.heap.size, 0, none⟩ (.int .i64 b.first)).setCell ⟨w.heap.size, 1, none⟩ (.slice A1 n1 c1)).setCell ⟨w.heap.size, 2, none⟩ (.int .i64 b.rate)).setCell ⟨w.heap.size + 1, 0, none⟩ (.int .i64 r0)).setCell ⟨w.heap.size + 1, 1, none⟩ (.int .i64 d0)) w.heap.size 28 #[.int .i64 b.first, .slice A1 n1 c1, .int .i64 b.rate] := by simpa using (((((HZ0.out.set_ 0 (.int .i64 b.first)).set_ 1 (.slice A1 n1 c1)).set_ 2 (.int .i64 b.rate)).far (by show w.heap.size ≠ w.heap.size + 1; omega) (.int .i64 r0)).far (by show w.heap.size ≠ w.heap.size + 1; omega) (.int .i64 d0))
  have hy9 : Blk (((((w3.setCell ⟨w.heap.size, 0, none⟩ (.int .i64 b.first)).setCell ⟨w.heap.size, 1, none⟩ (.slice A1 n1 c1)).setCell ⟨w.heap.size, 2, none⟩ (.int .i64 b.rate)).setCell ⟨w.heap.size + 1, 0, none⟩ (.int .i64 r0)).setCell ⟨w.heap.size + 1, 1, none⟩ (.int .i64 d0)) (w.heap.size + 1) 31 #[.int .i64 r0, .int .i64 d0] := by simpa using (((((HZ1.out.far (by show w.heap.size + 1 ≠ w.heap.size; omega) (.int .i64 b.first)).far (by show w.heap.size + 1 ≠ w.heap.size; omega) (.slice A1 n1 c1)).far (by show w.heap.size + 1 ≠ w.heap.size; omega) (.int .i64 b.rate)).set_ 0 (.int .i64 r0)).set_ 1 (.int .i64 d0))
  have hb9 : Below w.heap.size w (((((w3.setCell ⟨w.heap.size, 0, none⟩ (.int .i64 b.first)).setCell ⟨w.heap.size, 1, none⟩ (.slice A1 n1 c1)).setCell ⟨w.heap.size, 2, none⟩ (.int .i64 b.rate)).setCell ⟨w.heap.size + 1, 0, none⟩ (.int .i64 r0)).setCell ⟨w.heap.size + 1, 1, none⟩ (.int .i64 d0)) := (((((HBW.out.setCell (p := ⟨w.heap.size, 0, none⟩) (by show w.heap.size ≤ w.heap.size; omega) (.int .i64 b.first)).setCell (p := ⟨w.heap.size, 1, none⟩) (by show w.heap.size ≤ w.heap.size; omega) (.slice A1 n1 c1)).setCell (p := ⟨w.heap.size, 2, none⟩) (by show w.heap.size ≤ w.heap.size; omega) (.int .i64 b.rate)).setCell (p := ⟨w.heap.size + 1, 0, none⟩) (by show w.heap.size ≤ w.heap.size + 1; omega) (.int .i64 r0)).setCell (p := ⟨w.heap.size + 1, 1, none⟩) (by show w.heap.size ≤ w.heap.size + 1; omega) (.int .i64 d0))
  have hp9 : PB Wa.heap.size (((((w3.setCell ⟨w.heap.size, 0, none⟩ (.int .i64 b.first)).setCell ⟨w.heap.size, 1, none⟩ (.slice A1 n1 c1)).setCell ⟨w.heap.size, 2, none⟩ (.int .i64 b.rate)).setCell ⟨w.heap.size + 1, 0, none⟩ (.int .i64 r0)).setCell ⟨w.heap.size + 1, 1, none⟩ (.int .i64 d0)) b A1 n1 c1 A2 k c2 xs := (((((HP.out.low (show w.heap.size < Wa.heap.size by omega) 0 (.int .i64 b.first)).low (show w.heap.size < Wa.heap.size by omega) 1 (.slice A1 n1 c1)).low (show w.heap.size < Wa.heap.size by omega) 2 (.int .i64 b.rate)).low (show w.heap.size + 1 < Wa.heap.size by omega) 0 (.int .i64 r0)).low (show w.heap.size + 1 < Wa.heap.size by omega) 1 (.int .i64 d0))
  clear zc0 zf0 zc1 zf1 zc2 zf2 yc0 yf0 yc1 yf1
  generalize (((((w3.setCell ⟨w.heap.size, 0, none⟩ (.int .i64 b.first)).setCell ⟨w.heap.size, 1, none⟩ (.slice A1 n1 c1)).setCell ⟨w.heap.size, 2, none⟩ (.int .i64 b.rate)).setCell ⟨w.heap.size + 1, 0, none⟩ (.int .i64 r0)).setCell ⟨w.heap.size + 1, 1, none⟩ (.int .i64 d0)) = W9 at hz9 hy9 hb9 hp9 ⊢
  have q0 : W9.cell? ⟨w.heap.size, 0, none⟩ = some (.int .i64 b.first) := hz9.cell 0
  have q1 : W9.cell? ⟨w.heap.size, 1, none⟩ = some (.slice A1 n1 c1) := hz9.cell 1
  have q2 : W9.cell? ⟨w.heap.size, 2, none⟩ = some (.int .i64 b.rate) := hz9.cell 2
  have p0 : W9.cell? ⟨w.heap.size + 1, 0, none⟩ = some (.int .i64 r0) := hy9.cell 0
  have p1 : W9.cell? ⟨w.heap.size + 1, 1, none⟩ = some (.int .i64 d0) := hy9.cell 1
  have HP9 := Lib.hid hp9; have HB9 := Lib.hid hb9; clear hp9 hb9
  go_wp2_with fail
  refine bodyPost_ret (v := .tuple #[.agg #[.int .i64 b.first, .slice A1 n1 c1, .int .i64 b.rate], .slice A2 k c2, .agg #[.int .i64 r0, .int .i64 d0], .int .i64 x1]) (by simp [results, Tryz.results23, go_sem, q0, q1, q2, p0, p1]) rfl ?_
  exact ⟨b, A1, n1, c1, A2, k, c2, xs, r0, d0, x1, rfl, HP9.out.more (by omega), hx0, hx1, HB9.out⟩
end Go.Proofs.YtbjdbpdgacfcpaaGreat
end
