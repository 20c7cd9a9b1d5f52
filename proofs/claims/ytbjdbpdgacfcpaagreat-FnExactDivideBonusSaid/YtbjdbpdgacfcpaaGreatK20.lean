/- Parts of a proof, one after another: DrawP7, LikesT, Share1, Share2. No condition. -/
import Derived.Test.YtbjdbpdgacfcpaaGreatK1
import Derived.Test.YtbjdbpdgacfcpaaGreatK2
import Derived.Test.YtbjdbpdgacfcpaaGreatK5
import Derived.Test.YtbjdbpdgacfcpaaGreatK6
import Derived.Test.YtbjdbpdgacfcpaaGreatK19
import Derived.Deep.DeepCutAuto
/- Draws of scenarios, amounts, funds; draws of the arguments of laws on portfolios. -/
section
namespace Go.Proofs.YtbjdbpdgacfcpaaGreat
open Go.RowKit Go.BigFrame

theorem Res.low {w : World} {B t sz n cap : Nat} {A : Option Addr} {rows : List (List Value)} (h : Res B w t sz A n cap rows) {Z : Nat} (hZ : Z < B) (i : Nat) (v : Value) : Res B (w.setCell ⟨Z, i, none⟩ v) t sz A n cap rows :=
  h.keep fun a ha => Below.heap_setCell _ _ _ _ (by have := (h.lt ha).1; show a ≠ Z; omega)
/-- a drawn basis, a drawn portfolio -/
structure PB (B : Nat) (w : World) (b : Bas) (A : Option Addr) (n c : Nat) (A2 : Option Addr) (k c2 : Nat) (xs : List Holding) : Prop where
  liv : Res B w 2 1 A n c (intRows b.lives)
  sm : BasSmall b n
  res : Res B w 90 7 A2 k c2 (holdingRows xs)
  len : k ≤ 100
  fits : ∀ x ∈ xs, x.fits
namespace PB
variable {K : Code} {g B : Nat} {w w' : World} {b : Bas} {A : Option Addr} {n c : Nat} {A2 : Option Addr} {k c2 : Nat} {xs : List Holding}
theorem nxx (h : PB B w b A n c A2 k c2 xs) (hN : Nx K g w w') (hB : g < B) : PB B w' b A n c A2 k c2 xs := { h with liv := h.liv.nx hN hB, res := h.res.nx hN hB }
theorem past (h : PB B w b A n c A2 k c2 xs) (hb : Below w.heap.size w w') : PB B w' b A n c A2 k c2 xs := { h with liv := h.liv.past hb, res := h.res.past hb }
theorem more {B' : Nat} (h : PB B w b A n c A2 k c2 xs) (hB : B' ≤ B) : PB B' w b A n c A2 k c2 xs := { h with liv := h.liv.more hB, res := h.res.more hB }
theorem low (h : PB B w b A n c A2 k c2 xs) {Z : Nat} (hZ : Z < B) (i : Nat) (v : Value) : PB B (w.setCell ⟨Z, i, none⟩ v) b A n c A2 k c2 xs := { h with liv := h.liv.low hZ i v, res := h.res.low hZ i v }
theorem xlen (h : PB B w b A n c A2 k c2 xs) : xs.length = k := by have := h.res.len; rwa [holdingRows_length] at this
theorem blen (h : PB B w b A n c A2 k c2 xs) : b.lives.length = n := by have := h.liv.len; rwa [intRows_length] at this
theorem basT (h : PB B w b A n c A2 k c2 xs) : BasT w A n c b := by
  have hl := h.blen
  refine BasT.of_res h.liv (by have := h.sm.len; omega) (fun x hx => ?_) ?_ ?_
  · have := h.sm.lives x hx; unfold In64; omega
  · have := h.sm.first; unfold In64; omega
  · have := h.sm.rate; unfold In64; omega
end PB
theorem spec_l17Draw_pb (K : Code) (hK : K.Ok) (g : Nat) (w0 : World) (w : World) (hT : Nx K g w0 w) :
    Calls Tryz.prog 73 #[.pointer (some ⟨g, 0, none⟩)] w fun e w' => ∃ (b : Bas) (A' : Option Addr) (n' c' : Nat) (A2 : Option Addr) (k c2 : Nat) (xs : List Holding), e = .returned (.tuple #[.agg #[.int .i64 b.first, .slice A' n' c', .int .i64 b.rate], .slice A2 k c2]) ∧ PB w0.heap.size w' b A' n' c' A2 k c2 xs ∧ Nx K g w0 w' := by
  refine (spec_l17Draw_any K hK g w0 w hT).mono ?_
  rintro e w3 ⟨b, A1, n1, c1, A2, k, c2, xs, rfl, h1, h2, h3, h4, h5, hT⟩
  exact ⟨b, A1, n1, c1, A2, k, c2, xs, rfl, ⟨h1, h2, h3, h4, h5⟩, hT⟩

set_option maxHeartbeats 2000000 in
theorem spec_l21DrawDeath_any (K : Code) (hK : K.Ok) (g : Nat) (w0 : World) (w : World) (hT : Nx K g w0 w) :
    Calls Tryz.prog 81 #[.pointer (some ⟨g, 0, none⟩)] w fun e w' => ∃ d : Int, e = .returned (.int .i64 d) ∧ (-501 ≤ d ∧ d ≤ 501) ∧ Nx K g w0 w' := by
  go_enter Tryz.func81, Tryz.ntmps81
  go_wp2_with (first | (go_at_call 102; refine (spec_l01Next_any K hK g _ _ _ (Nx.refl (Nx.src (by first | exact hT | exact hT.alloc _ | exact (hT.alloc _).alloc _ | exact hT.drew)))).mono ?_; rintro e w3 ⟨x, rfl, ⟨hx0, hx1⟩, hN⟩; have hT := Nx.trans (by first | exact hT | exact hT.alloc _ | exact (hT.alloc _).alloc _ | exact hT.drew) hN) | (go_at_call 80; refine (spec_l01Pick_new K hK g _ _ _ _ (by first | exact hT | exact hT.alloc _ | exact (hT.alloc _).alloc _ | exact hT.drew) (by rfl) (by decide) (by decide) (by rfl)).mono ?_; rintro e w3 ⟨x, rfl, hx, hT⟩; simp only [OneOf, Value.int.injEq, true_and, or_false] at hx))
  all_goals (go_ret; exact ⟨_, rfl, by omega, hT⟩)
set_option maxHeartbeats 2000000 in
theorem spec_l21DrawFund_any (K : Code) (hK : K.Ok) (g : Nat) (w0 : World) (w : World) (hT : Nx K g w0 w) :
    Calls Tryz.prog 105 #[.pointer (some ⟨g, 0, none⟩)] w fun e w' => ∃ d : Int, e = .returned (.int .i64 d) ∧ (-1 ≤ d ∧ d ≤ 1000000000001) ∧ Nx K g w0 w' := by
  go_enter Tryz.func105, Tryz.ntmps105
  go_wp2_with (first | (go_at_call 102; refine (spec_l01Next_any K hK g _ _ _ (Nx.refl (Nx.src (by first | exact hT | exact hT.alloc _ | exact (hT.alloc _).alloc _ | exact hT.drew)))).mono ?_; rintro e w3 ⟨x, rfl, ⟨hx0, hx1⟩, hN⟩; have hT := Nx.trans (by first | exact hT | exact hT.alloc _ | exact (hT.alloc _).alloc _ | exact hT.drew) hN) | (go_at_call 80; refine (spec_l01Pick_new K hK g _ _ _ _ (by first | exact hT | exact hT.alloc _ | exact (hT.alloc _).alloc _ | exact hT.drew) (by rfl) (by decide) (by decide) (by rfl)).mono ?_; rintro e w3 ⟨x, rfl, hx, hT⟩; simp only [OneOf, Value.int.injEq, true_and, or_false] at hx))
  all_goals (go_ret; exact ⟨_, rfl, by omega, hT⟩)
set_option maxHeartbeats 2000000 in
theorem spec_l19DrawAmount_any (K : Code) (hK : K.Ok) (g : Nat) (w0 : World) (w : World) (hT : Nx K g w0 w) :
    Calls Tryz.prog 130 #[.pointer (some ⟨g, 0, none⟩)] w fun e w' => ∃ d : Int, e = .returned (.int .i64 d) ∧ (-1 ≤ d ∧ d ≤ 1000000001) ∧ Nx K g w0 w' := by
  go_enter Tryz.func130, Tryz.ntmps130
  go_wp2_with (first | (go_at_call 102; refine (spec_l01Next_any K hK g _ _ _ (Nx.refl (Nx.src (by first | exact hT | exact hT.alloc _ | exact (hT.alloc _).alloc _ | exact hT.drew)))).mono ?_; rintro e w3 ⟨x, rfl, ⟨hx0, hx1⟩, hN⟩; have hT := Nx.trans (by first | exact hT | exact hT.alloc _ | exact (hT.alloc _).alloc _ | exact hT.drew) hN) | (go_at_call 80; refine (spec_l01Pick_new K hK g _ _ _ _ (by first | exact hT | exact hT.alloc _ | exact (hT.alloc _).alloc _ | exact hT.drew) (by rfl) (by decide) (by decide) (by rfl)).mono ?_; rintro e w3 ⟨x, rfl, hx, hT⟩; simp only [OneOf, Value.int.injEq, true_and, or_false] at hx))
  all_goals (go_ret; exact ⟨_, rfl, by omega, hT⟩)

/-- the boxes of l21Draw -/
structure S21 (K : Code) (g : Nat) (w W : World) (Gs : Nat) (r d : Int) : Prop where
  z : Blk W w.heap.size 31 #[.int .i64 0, .int .i64 0]
  s : Blk W Gs 31 #[.int .i64 r, .int .i64 d]
  nx : Nx K g w W
  gw : g < w.heap.size
  ws : w.heap.size < Gs
  hr : (-1000 ≤ r ∧ r ≤ 1000) ∧ (-1000 ≤ d ∧ d ≤ 1000)
theorem S21.nxx {K : Code} {g : Nat} {w W W' : World} {Gs : Nat} {r d : Int} (h : S21 K g w W Gs r d) (hN : Nx K g W W') : S21 K g w W' Gs r d := by
  have h1 := h.gw; have h2 := h.ws
  exact { h with z := h.z.nx hN (by omega), s := h.s.nx hN (by omega), nx := h.nx.trans hN }
theorem S21.src {K : Code} {g : Nat} {w W : World} {Gs : Nat} {r d : Int} (h : S21 K g w W Gs r d) : Src K g W := h.nx.src
theorem S21.put {K : Code} {g : Nat} {w W : World} {Gs : Nat} {r d : Int} (h : S21 K g w W Gs r d) (x : Int) (hx : -1000 ≤ x ∧ x ≤ 1000) : S21 K g w (W.setCell ⟨Gs, 0, none⟩ (.int .i64 x)) Gs x d := by
  have h1 := h.gw; have h2 := h.ws
  exact ⟨h.z.far (by show w.heap.size ≠ Gs; omega) _, by simpa using h.s.set_ 0 (.int .i64 x), h.nx.kept h1 (Nat.le_refl _) ((Below.refl _ _).setCell (p := ⟨Gs, 0, none⟩) (by show w.heap.size ≤ Gs; omega) _), h1, h2, hx, h.hr.2⟩
set_option maxHeartbeats 4000000 in
theorem spec_l21Draw_any (K : Code) (hK : K.Ok) (g : Nat) (w0 : World) (w : World) (hT : Nx K g w0 w) :
    Calls Tryz.prog 74 #[.pointer (some ⟨g, 0, none⟩)] w fun e w' => ∃ r d : Int, e = .returned (.agg #[.int .i64 r, .int .i64 d]) ∧ ((-1000 ≤ r ∧ r ≤ 1000) ∧ (-1000 ≤ d ∧ d ≤ 1000)) ∧ Nx K g w0 w' := by
  have HT0 := Lib.hid hT
  have hgw := hT.src.lt
  have hOw := (Nx.refl hT.src).alloc (.cells #[.int .i64 0, .int .i64 0] 31)
  have HZB := Lib.hid (Blk.new w 31 #[.int .i64 0, .int .i64 0])
  clear hT
  have hT := Nx.refl hOw.src
  go_enter Tryz.func74, Tryz.ntmps74
  go_wp2_with fail
  have HSZ := Lib.hid (show w.heap.size < (w.alloc (.cells #[.int .i64 0, .int .i64 0] 31)).heap.size by simp)
  generalize w.alloc (.cells #[.int .i64 0, .int .i64 0] 31) = Wa at hT hOw HZB HSZ ⊢
  go_upto_region 2 with (first | ((go_at_call 102; refine (spec_l01Next_any K hK g _ _ _ (Nx.refl (Nx.src (by first | exact hT | exact hT.alloc _ | exact (hT.alloc _).alloc _ | exact hT.drew)))).mono ?_; rintro e w3 ⟨x, rfl, ⟨hx0, hx1⟩, hN⟩; have hT := Nx.trans (by first | exact hT | exact hT.alloc _ | exact (hT.alloc _).alloc _ | exact hT.drew) hN); rename Int => q0; have hq0 : 0 ≤ q0 ∧ q0 ≤ 40 := by omega) | ((go_at_call 80; refine (spec_l01Pick_new K hK g _ _ _ _ (by first | exact hT | exact hT.alloc _ | exact (hT.alloc _).alloc _ | exact hT.drew) (by rfl) (by decide) (by decide) (by rfl)).mono ?_; rintro e w3 ⟨x, rfl, hx, hT⟩; simp only [OneOf, Value.int.injEq, true_and, or_false] at hx); first | (have hq9 := hq2; rename Int => q4) | (rename Int => q3)) | (go_at_call 81; refine (spec_l21DrawDeath_any K hK g _ _ (by first | exact hT | exact hT.alloc _ | exact (hT.alloc _).alloc _ | exact hT.drew) ).mono ?_; rintro e w3 ⟨q2, rfl, hq2, hT⟩))
  have HQ := Lib.hid (show S21 K g w (w3.alloc (.cells #[.int .i64 q3, .int .i64 q4] 31)) w3.heap.size q3 q4 from by
    have h1 := HSZ.out
    have h2 := hT.size
    exact ⟨(HZB.out.nx hT (by omega)).alloc _, Blk.new w3 _ _, (hOw.trans hT).alloc _, hgw, by omega, by omega, by omega⟩)
  clear HZB hOw hN hT hx0 hx1 hq0
  clear hx
  generalize w3.alloc (.cells #[.int .i64 q3, .int .i64 q4] 31) = W5 at HQ ⊢
  generalize w3.heap.size = Gs at HQ ⊢
  have hT := Nx.refl HQ.out.src
  go_upto_if 18 with (go_at_call 102; refine (spec_l01Next_any K hK g _ _ _ (by first | exact hT | exact hT.alloc _ | exact (hT.alloc _).alloc _ | exact hT.drew)).mono ?_; rintro e w3 ⟨y, rfl, ⟨hy0, hy1⟩, hTy⟩; have HQ := Lib.hid (HQ.out.nxx hTy); clear hTy; have hT := Nx.refl HQ.out.src)
  go_cut [] (fun wx => ∃ r d : Int, Hid (S21 K g w wx Gs r d))
  case first =>
    go_wp2_with ((go_at_call 80; refine (spec_l01Pick_new K hK g _ _ _ _ (by first | exact hT | exact hT.alloc _ | exact (hT.alloc _).alloc _ | exact hT.drew) (by rfl) (by decide) (by decide) (by rfl)).mono ?_; rintro e w3 ⟨z, rfl, hz, hTy⟩; simp only [OneOf, Value.int.injEq, true_and, or_false] at hz; have HQ := Lib.hid (HQ.out.nxx hTy); clear hTy; have hT := Nx.refl HQ.out.src); have z4 := HQ.out.s.frozen 0; have f4 := HQ.out.s.cell 0)
    · go_meet
      case rel => exact ⟨_, _, Lib.hid (HQ.out.put z (by omega))⟩
    · go_meet
      case rel => exact ⟨_, _, HQ⟩
  case rest =>
    clear HQ hT
    obtain ⟨r, d, HQ⟩ := hcut
    have hcS := Lib.hid (Blk.agg (cs := [.int .i64 r, .int .i64 d]) HQ.out.s 0 [.int .i64 r, .int .i64 d] rfl)
    have zc0 : wc.cell? ⟨w.heap.size, 0, none⟩ = some (.int .i64 0) := HQ.out.z.cell 0
    have zf0 : wc.frozen? ⟨w.heap.size, 0, none⟩ = false := HQ.out.z.frozen 0
    have zc1 : wc.cell? ⟨w.heap.size, 1, none⟩ = some (.int .i64 0) := HQ.out.z.cell 1
    have zf1 : wc.frozen? ⟨w.heap.size, 1, none⟩ = false := HQ.out.z.frozen 1
    go_wp2_with (refine wpList_load_agg rfl 31 _ rfl ⟨Gs, 0, none⟩ rfl [.int .i64 r, .int .i64 d] hcS.out _ Tryz.underlying31 rfl Scenario.size ?_)
    have hz9 : Blk ((wc.setCell ⟨w.heap.size, 0, none⟩ (.int .i64 r)).setCell ⟨w.heap.size, 1, none⟩ (.int .i64 d)) w.heap.size 31 #[.int .i64 r, .int .i64 d] := by simpa using (HQ.out.z.set_ 0 (.int .i64 r)).set_ 1 (.int .i64 d)
    have hb9 := ((Below.refl w.heap.size wc).setCell (p := ⟨w.heap.size, 0, none⟩) (Nat.le_refl _) (.int .i64 r)).setCell (p := ⟨w.heap.size, 1, none⟩) (Nat.le_refl _) (.int .i64 d)
    generalize (wc.setCell ⟨w.heap.size, 0, none⟩ (.int .i64 r)).setCell ⟨w.heap.size, 1, none⟩ (.int .i64 d) = W9 at hz9 hb9 ⊢
    have r0 : W9.cell? ⟨w.heap.size, 0, none⟩ = some (.int .i64 r) := hz9.cell 0
    have r1 : W9.cell? ⟨w.heap.size, 1, none⟩ = some (.int .i64 d) := hz9.cell 1
    refine bodyPost_ret (v := .agg #[.int .i64 r, .int .i64 d]) (by simp [results, Tryz.results74, go_sem, r0, r1]) rfl ?_
    exact ⟨r, d, rfl, HQ.out.hr, HT0.out.trans (HQ.out.nx.kept HQ.out.gw (Nat.le_refl _) hb9)⟩
end Go.Proofs.YtbjdbpdgacfcpaaGreat
end

/- Tables are compared; what a law on portfolios knows of what was drawn. -/
section
namespace Go.Proofs.YtbjdbpdgacfcpaaGreat
open Go.RowKit Go.BigFrame
set_option maxHeartbeats 1000000 in
theorem likeTables9_any (f : Int) (A : Option Addr) (n cap : Nat) (A2 : Option Addr) (cap2 : Nat) (xs : List Int) (w : World) (hl : xs.length = n) (hn : n ≤ 1048576) (hX : Rd w w.heap.size A 1 (intRows xs)) (hX2 : Rd w w.heap.size A2 1 (intRows xs)) :
    Calls Tryz.prog 18 #[.agg #[.int .i64 f, .slice A n cap], .agg #[.int .i64 f, .slice A2 n cap2]] w fun e w' => e = .returned (.bool true) ∧ Below w.heap.size w w' := by
  have hb : Below w.heap.size w ((w.alloc (.cells #[.int .i64 f, .slice A n cap] 26)).alloc (.cells #[.int .i64 f, .slice A2 n cap2] 26)) := ((Below.refl _ w).alloc (Nat.le_refl _) _).alloc (by simp) _
  have HX := Lib.hid (hX.past hb)
  have HX2 := Lib.hid (hX2.past hb)
  have HB := Lib.hid hb
  clear hX hX2 hb
  go_enter Tryz.func18, Tryz.ntmps18
  go_wp2_with (go_at_call 46; refine (likeInts_any A n cap A2 cap2 xs _ hl hn HX.out HX2.out).mono ?_; rintro e w' ⟨rfl, hb⟩)
  go_ret
  exact ⟨rfl, HB.out.trans (hb.mono HB.out.size)⟩
theorem Rd.bcell {w : World} {B g sz : Nat} {r : List Value} (h : Rd w B (some ⟨g, 0, none⟩) sz [r]) (j : Nat) {v : Value} (hv : r[j]? = some v) : w.cell? ⟨g, j, none⟩ = some v := by
  have := Rd.box h j v hv
  rw [add_none] at this
  simpa using this
/-- what is known of a drawn basis and portfolio, beside their cells -/
structure PF (b : Bas) (n c : Nat) (k : Nat) (xs : List Holding) : Prop where
  sm : BasSmall b n
  len : k ≤ 100
  fits : ∀ x ∈ xs, x.fits
  xlen : xs.length = k
  blen : b.lives.length = n
  cap : n ≤ c
theorem PB.pf {B : Nat} {w : World} {b : Bas} {A : Option Addr} {n c : Nat} {A2 : Option Addr} {k c2 : Nat} {xs : List Holding} (h : PB B w b A n c A2 k c2 xs) : PF b n c k xs := ⟨h.sm, h.len, h.fits, h.xlen, h.blen, res_cap h.liv⟩
/-- .. of a drawn basis alone -/
structure BF (b : Bas) (n c : Nat) : Prop where
  sm : BasSmall b n
  blen : b.lives.length = n
  cap : n ≤ c
theorem PF.bf {b : Bas} {n c k : Nat} {xs : List Holding} (h : PF b n c k xs) : BF b n c := ⟨h.sm, h.blen, h.cap⟩
theorem BF.of {B : Nat} {w : World} {b : Bas} {A : Option Addr} {n c : Nat} (h : Res B w 2 1 A n c (intRows b.lives)) (hs : BasSmall b n) : BF b n c := ⟨hs, by have := h.len; rwa [intRows_length] at this, res_cap h⟩
theorem liesT_of {w : World} {A : Option Addr} {n : Nat} {xs : List Int} (hr : Rd w w.heap.size A 1 (intRows xs)) (hl : xs.length = n) (hn : n ≤ 1048576) (h : ∀ x ∈ xs, 0 ≤ x ∧ x ≤ 1000001) : LiesT w A n xs :=
  ⟨hl, hn, hr, fun x hx => by have := h x hx; unfold In64; omega⟩
theorem BF.basT {w : World} {b : Bas} {A : Option Addr} {n c : Nat} (h : BF b n c) (hr : Rd w w.heap.size A 1 (intRows b.lives)) : BasT w A n c b := by
  refine ⟨liesT_of hr h.blen (by have := h.sm.len; omega) h.sm.lives, h.cap, ?_, ?_⟩
  · have := h.sm.first; unfold In64; omega
  · have := h.sm.rate; unfold In64; omega
theorem tab_lives {f : Int} {xs : List Int} (h : tableB f xs = true) : ∀ x ∈ xs, 0 ≤ x ∧ x ≤ 1000001 := by
  intro x hx
  have T := table_ok h
  obtain ⟨k, hk, rfl⟩ := List.getElem_of_mem hx
  have e : lv xs k = xs[k] := lv_get (List.getElem?_eq_getElem hk)
  have h1 := T.nonneg k
  have h2 := T.most k
  omega
theorem tab_first {f : Int} {xs : List Int} (h : tableB f xs = true) : In64 f := by
  have T := table_ok h
  have h1 := T.first0; have h2 := T.first1
  unfold In64; omega
theorem tabT_good {w : World} {A : Option Addr} {n : Nat} {f : Int} {xs : List Int} (h : tableB f xs = true) (hr : Rd w w.heap.size A 1 (intRows xs)) (hl : xs.length = n) : LiesT w A n xs :=
  liesT_of hr hl (by have := (table_ok h).len1; omega) (tab_lives h)
theorem basT_good {w : World} {A : Option Addr} {n c : Nat} {b : Bas} (h : basisB b = true) (hr : Rd w w.heap.size A 1 (intRows b.lives)) (hl : b.lives.length = n) (hc : n ≤ c) : BasT w A n c b := by
  have B := basis_ok h
  have ht : tableB b.first b.lives = true := by simp only [basisB, Bool.and_eq_true] at h; exact h.1
  refine ⟨tabT_good ht hr hl, hc, tab_first ht, ?_⟩
  have h1 := B.rate0; have h2 := B.rate1
  unfold In64; omega
theorem chgT_len {f dt : Int} {xs : List Int} : (chgTP f xs dt).2.1.length ≤ 1048576 := by
  unfold chgTP
  split
  · rename_i h1
    split
    · have := chgL_small (dt := dt) h1
      show (chgL xs dt).length ≤ 1048576
      omega
    · simp
  · simp
theorem chgB_len {b : Bas} {r : Scenario} : (chgBP b r).1.lives.length ≤ 1048576 := by
  unfold chgBP
  split
  · rename_i h1
    split
    · have ht : tableB b.first b.lives = true := by simp only [basisB, Bool.and_eq_true] at h1; exact h1.1
      have := chgL_small (dt := r.death) ht
      show (chgL b.lives r.death).length ≤ 1048576
      omega
    · simp
  · simp
theorem scen_fit2 {r d : Int} (h : (-1000 ≤ r ∧ r ≤ 1000) ∧ (-1000 ≤ d ∧ d ≤ 1000)) : (⟨r, d⟩ : Scenario).fits := by
  show In64 r ∧ In64 d
  unfold In64; omega
theorem box2 {w : World} {tx ty : TypeId} {X Y : List Value} : Below w.heap.size w ((w.alloc (.cells X.toArray tx)).alloc (.cells Y.toArray ty)) ∧ Rd ((w.alloc (.cells X.toArray tx)).alloc (.cells Y.toArray ty)) ((w.alloc (.cells X.toArray tx)).alloc (.cells Y.toArray ty)).heap.size (some ⟨w.heap.size, 0, none⟩) X.length [X] ∧ Rd ((w.alloc (.cells X.toArray tx)).alloc (.cells Y.toArray ty)) ((w.alloc (.cells X.toArray tx)).alloc (.cells Y.toArray ty)).heap.size (some ⟨w.heap.size + 1, 0, none⟩) Y.length [Y] := by
  refine ⟨((Below.refl _ w).alloc (Nat.le_refl _) _).alloc (by simp) _, Blk.rd ((Blk.new w tx X.toArray).alloc _), ?_⟩
  have h := Blk.new (w.alloc (.cells X.toArray tx)) ty Y.toArray
  simp only [World.size_alloc] at h
  exact Blk.rd h
theorem box1 {w : World} {tx : TypeId} {X : List Value} : Below w.heap.size w (w.alloc (.cells X.toArray tx)) ∧ Rd (w.alloc (.cells X.toArray tx)) (w.alloc (.cells X.toArray tx)).heap.size (some ⟨w.heap.size, 0, none⟩) X.length [X] :=
  ⟨(Below.refl _ w).alloc (Nat.le_refl _) _, Blk.rd (Blk.new w tx X.toArray)⟩
end Go.Proofs.YtbjdbpdgacfcpaaGreat
end

/- Shares: the program's contract. -/
section
namespace Go.Proofs.YtbjdbpdgacfcpaaGreat
open Go.RowKit Go.BigFrame

theorem natRows_succ (k : Nat) (f : Nat → Nat) : natRows (k + 1) f = natRows k f ++ [[Value.int .i64 ((f k : Nat) : Int)]] := by simp [natRows, List.range_succ]
theorem sum_nonneg : ∀ {ws : List Int}, (∀ x ∈ ws, 0 ≤ x) → 0 ≤ ws.sum
  | [], _ => by simp
  | w :: ws, h => by
    have h1 := h w (by simp)
    have h2 := sum_nonneg (ws := ws) fun x hx => h x (by simp [hx])
    simp only [List.sum_cons]; omega
theorem take_sum_le {ws : List Int} (h : ∀ x ∈ ws, 0 ≤ x) (k : Nat) : 0 ≤ (ws.take k).sum ∧ (ws.take k).sum ≤ ws.sum := by
  have h1 := sum_nonneg (ws := ws.take k) fun x hx => h x (List.mem_of_mem_take hx)
  have h2 := sum_nonneg (ws := ws.drop k) fun x hx => h x (List.mem_of_mem_drop hx)
  have h3 : ws.sum = (ws.take k).sum + (ws.drop k).sum := by rw [← List.sum_append, List.take_append_drop]
  omega
theorem mem_le_sum : ∀ {ws : List Int}, (∀ x ∈ ws, 0 ≤ x) → ∀ x ∈ ws, x ≤ ws.sum
  | w :: ws, h, x, hx => by
    have h1 := h w (by simp)
    have h2 := sum_nonneg (ws := ws) fun x hx => h x (by simp [hx])
    simp only [List.sum_cons]
    rcases List.mem_cons.1 hx with e | e
    · omega
    · have := mem_le_sum (ws := ws) (fun x hx => h x (by simp [hx])) x e
      omega
theorem quots_take (a s : Int) (ws : List Int) (k : Nat) : (quots a s ws).take k = quots a s (ws.take k) := by simp [quots, List.map_take]
theorem quots_get {a s : Int} {ws : List Int} {k : Nat} {x : Int} (h : ws[k]? = some x) : (quots a s ws)[k]? = some (a * x / s) := by simp [quots, h]
theorem quots_length (a s : Int) (ws : List Int) : (quots a s ws).length = ws.length := by simp [quots]
theorem quots_bound {a : Int} {ws : List Int} (ha : 0 ≤ a) (hw : ∀ x ∈ ws, 0 ≤ x) (hs : 0 < ws.sum) : ∀ q ∈ quots a ws.sum ws, 0 ≤ q ∧ q ≤ a := by
  intro q hq
  obtain ⟨x, hx, rfl⟩ := List.mem_map.1 hq
  have h1 := hw x hx
  have h2 := mem_le_sum hw x hx
  refine ⟨Int.ediv_nonneg (Int.mul_nonneg ha h1) (by omega), ?_⟩
  have h3 : a * x ≤ a * ws.sum := Int.mul_le_mul_of_nonneg_left h2 ha
  have h4 := Int.ediv_le_ediv hs h3
  rwa [Int.mul_ediv_cancel _ (by omega)] at h4
theorem quots_sums {a : Int} {ws : List Int} (ha : 0 ≤ a) (ha1 : a ≤ 1000000000) (hw : ∀ x ∈ ws, 0 ≤ x) (hs : 0 < ws.sum) (hl : ws.length ≤ 30) : Sums (quots a ws.sum ws) :=
  (sums_of (n := 30) (hi := 1000000000) (by omega) (by rw [quots_length]; exact hl) (fun q hq => by have := quots_bound ha hw hs q hq; omega) (by omega)).1
theorem bump_bound : ∀ (is : List Nat) {o : List Int} {hi : Int}, 0 ≤ hi → (∀ x ∈ o, 0 ≤ x ∧ x ≤ hi) → ∀ x ∈ bump o is, 0 ≤ x ∧ x ≤ hi + is.length
  | [], o, hi, _, h => fun x hx => by have := h x hx; simp; omega
  | i :: is, o, hi, h0, h => fun x hx => by
    have hg : 0 ≤ o.getD i 0 ∧ o.getD i 0 ≤ hi := by
      rw [List.getD_eq_getElem?_getD]
      cases he : o[i]? with
      | none => simp; omega
      | some y => exact h y (List.mem_of_getElem? he)
    have := bump_bound is (o := o.set i (o.getD i 0 + 1)) (hi := hi + 1) (by omega) (fun y hy => by
      rcases List.mem_or_eq_of_mem_set hy with h' | h'
      · have := h y h'; omega
      · omega) x hx
    simp only [List.length_cons]; push_cast; omega
/-- while the wholes and the indices are collected -/
structure ShS (B q1 q2 q3 : Nat) (a s : Int) (X : Option Addr) (m xc : Nat) (ws : List Int) (w wr : World) (ko go oc kr gr rc : Nat) : Prop where
  ro : Res B wr 2 1 (some ⟨go, 0, none⟩) ko oc (intRows ((quots a s ws).take ko))
  rr : Res B wr 3 1 (some ⟨gr, 0, none⟩) kr rc (natRows kr fun k => k)
  ne : go ≠ gr
  n3 : go ≠ q3
  m3 : gr ≠ q3
  b1 : Blk wr q1 2 #[.int .i64 a]
  b2 : Blk wr q2 24 #[.slice X m xc]
  b3 : Blk wr q3 2 #[.int .i64 s]
  l1 : q1 < B
  l2 : q2 < B
  l3 : B ≤ q3
  bl : Below w.heap.size w wr
  zb : w.heap.size ≤ B
namespace ShS
variable {B q1 q2 q3 : Nat} {a s : Int} {X : Option Addr} {m xc : Nat} {ws : List Int} {w wr w' : World} {ko go oc kr gr rc : Nat}
theorem hB (h : ShS B q1 q2 q3 a s X m xc ws w wr ko go oc kr gr rc) : B ≤ wr.heap.size := by have := h.ro.lt rfl; omega
theorem app1 (h : ShS B q1 q2 q3 a s X m xc ws w wr ko go oc kr gr rc) {O5 : Option Addr} {oc5 : Nat} {x : Int} (hx : ws[ko]? = some x)
    (hR : Res B w' 2 1 O5 (ko + 1) oc5 (intRows ((quots a s ws).take ko) ++ [[.int .i64 (a * x / s)]])) (hb : Below B wr w') (hk : KeptBut wr w' (some ⟨go, 0, none⟩)) (ho : blkOf O5 = blkOf (some ⟨go, 0, none⟩) ∨ blkOf O5 = some (wr.heap.size + 1)) :
    ∃ g5, O5 = some ⟨g5, 0, none⟩ ∧ ShS B q1 q2 q3 a s X m xc ws w w' (ko + 1) g5 oc5 kr gr rc := by
  obtain ⟨g5, _, e, _, _, _, _⟩ := hR.at_ (by omega)
  subst e
  have h1 := h.rr.lt rfl; have h2 := h.b3.lt; have h3 := h.ne; have h4 := h.n3
  have hg : g5 = go ∨ g5 = wr.heap.size + 1 := by
    rcases ho with e | e
    · left; injection e
    · right; injection e
  rw [← intRows_snoc, ← take_succ_snoc (quots_get hx)] at hR
  refine ⟨g5, rfl, { ro := hR, rr := h.rr.keptBut hk (fun g e => by injection e with e; injection e with e; subst e; intro h9; injection h9 with h9; exact h3 h9.symm), ne := by omega, n3 := by omega, m3 := h.m3, b1 := h.b1.below hb h.l1, b2 := h.b2.below hb h.l2, b3 := h.b3.kept hk (fun h9 => by injection h9 with h9; exact h4 h9.symm), l1 := h.l1, l2 := h.l2, l3 := h.l3, bl := h.bl.trans (hb.mono h.zb), zb := h.zb }⟩
theorem app2 (h : ShS B q1 q2 q3 a s X m xc ws w wr ko go oc kr gr rc) {O5 : Option Addr} {oc5 : Nat}
    (hR : Res B w' 3 1 O5 (kr + 1) oc5 (natRows kr (fun k => k) ++ [[.int .i64 (kr : Int)]])) (hb : Below B wr w') (hk : KeptBut wr w' (some ⟨gr, 0, none⟩)) (ho : blkOf O5 = blkOf (some ⟨gr, 0, none⟩) ∨ blkOf O5 = some (wr.heap.size + 1)) :
    ∃ g5, O5 = some ⟨g5, 0, none⟩ ∧ ShS B q1 q2 q3 a s X m xc ws w w' ko go oc (kr + 1) g5 oc5 := by
  obtain ⟨g5, _, e, _, _, _, _⟩ := hR.at_ (by omega)
  subst e
  have h1 := h.ro.lt rfl; have h2 := h.b3.lt; have h3 := h.ne; have h4 := h.m3
  have hg : g5 = gr ∨ g5 = wr.heap.size + 1 := by
    rcases ho with e | e
    · left; injection e
    · right; injection e
  rw [show natRows kr (fun k => k) ++ [[Value.int .i64 (kr : Int)]] = natRows (kr + 1) (fun k => k) from (natRows_succ kr _).symm] at hR
  refine ⟨g5, rfl, { ro := h.ro.keptBut hk (fun g e => by injection e with e; injection e with e; subst e; intro h9; injection h9 with h9; exact h3 h9), rr := hR, ne := by omega, n3 := h.n3, m3 := by omega, b1 := h.b1.below hb h.l1, b2 := h.b2.below hb h.l2, b3 := h.b3.kept hk (fun h9 => by injection h9 with h9; exact h4 h9.symm), l1 := h.l1, l2 := h.l2, l3 := h.l3, bl := h.bl.trans (hb.mono h.zb), zb := h.zb }⟩
end ShS
theorem rd_block {w : World} {B : Nat} {X : Option Addr} {sz : Nat} {rows : List (List Value)} (h : Rd w B X sz rows) (hne : rows ≠ []) : ∀ ad, X = some ad → ad.block < B := by
  rcases h with h | ⟨ad, e, hb, _⟩
  · exact absurd h hne
  · intro ad' e'; rw [e] at e'; injection e' with e'; subst e'; exact hb
theorem IntT.info : (Tryz.prog.info? 3).map (fun i => (i.zero, i.size, i.bytes)) = some (some (.int .i64 0), 1, 8) := by kernel_rfl
set_option maxRecDepth 20000 in
set_option maxHeartbeats 8000000 in
theorem impl_shareOut_any (a : Int) (X : Option Addr) (m xc : Nat) (ws : List Int) (w : World) (hl : ws.length = m) (hm0 : 1 ≤ m) (hm : m ≤ 30) (hX : Rd w w.heap.size X 1 (intRows ws)) (hw : ∀ x ∈ ws, 0 ≤ x ∧ x ≤ 1000000000) (ha : 0 ≤ a ∧ a ≤ 1000000000) (hs : 0 < ws.sum) :
    Calls Tryz.prog 159 #[.int .i64 a, .slice X m xc] w fun e w' => ∃ A' c', e = .returned (.slice A' m c') ∧ Res w.heap.size w' 2 1 A' m c' (intRows (sharesL a ws)) ∧ Below w.heap.size w w' := by
  obtain ⟨a0, a1⟩ := ha
  have hs2 := sums_of (xs := ws) (n := 30) (hi := 1000000000) (by omega) (by omega) hw (by omega)
  obtain ⟨HSU, _, hs1⟩ := hs2
  have HSU := Lib.hid HSU
  have hs3 : ws.sum ≤ 30000000000 := by omega
  have HXB := Lib.hid (rd_block hX (by intro h; have h2 : ws.length = 0 := by simpa [intRows] using congrArg List.length h
                                       omega))
  have HL := Lib.hid hl; clear hl
  have HWB := Lib.hid hw; clear hw
  have HXR := Lib.hid hX; clear hX
  have HQB := Lib.hid (quots_bound a0 (fun x hx => (HWB.out x hx).1) hs)
  have HQS := Lib.hid (quots_sums a0 a1 (fun x hx => (HWB.out x hx).1) hs (by rw [HL.out]; exact hm))
  obtain ⟨i0, hi0, hz0, hz1, hz2⟩ := info_parts Int64.info
  have HI := Lib.hid (And.intro hi0 (And.intro hz0 (And.intro hz1 hz2))); clear hi0 hz0 hz1 hz2
  obtain ⟨i1, hi0, hz0, hz1, hz2⟩ := info_parts IntT.info
  have HJ := Lib.hid (And.intro hi0 (And.intro hz0 (And.intro hz1 hz2))); clear hi0 hz0 hz1 hz2
  obtain ⟨s, hsd⟩ : ∃ s, s = ws.sum := ⟨_, rfl⟩
  have HSD := Lib.hid hsd
  rw [← hsd] at hs hs3 HQB HQS hs1
  clear hsd
  have HSH := Lib.hid (show ShS (w.heap.size + 1 + 1) w.heap.size (w.heap.size + 1) (w.heap.size + 1 + 1 + 1 + 1) a s X m xc ws w (((((w.alloc (.cells #[.int .i64 a] 2)).alloc (.cells #[.slice X m xc] 24)).alloc (.cells #[] 2)).alloc (.cells #[] 3)).alloc (.cells #[.int .i64 s] 2)) 0 (w.heap.size + 1 + 1) 0 0 (w.heap.size + 1 + 1 + 1) 0 from by
    refine { ro := ((Res.zero_at (by simp) (by simp)).alloc _).alloc _, rr := (Res.zero_at (by simp) (by simp)).alloc _, ne := by omega, n3 := by omega, m3 := by omega, b1 := ((((Blk.new w _ _).alloc _).alloc _).alloc _).alloc _, b2 := ?_, b3 := ?_, l1 := by omega, l2 := by omega, l3 := by omega, bl := ((((((Below.refl _ w).alloc (Nat.le_refl _) _).alloc (by simp) _).alloc (by simp <;> omega) _).alloc (by simp <;> omega) _).alloc (by simp <;> omega) _), zb := by omega }
    · have h := Blk.new (w.alloc (.cells #[.int .i64 a] 2)) 24 #[.slice X m xc]
      rw [World.size_alloc] at h
      exact ((h.alloc _).alloc _).alloc _
    · have h := Blk.new ((((w.alloc (.cells #[.int .i64 a] 2)).alloc (.cells #[.slice X m xc] 24)).alloc (.cells #[] 2)).alloc (.cells #[] 3)) 2 #[.int .i64 s]
      simp only [World.size_alloc] at h
      exact h)
  go_enter Tryz.func159, Tryz.ntmps159
  go_upto_region 2 with (go_at_call 97; refine (impl_total_any X m xc ws _ HL.out (by omega) (HXR.out.past (((Below.refl _ w).alloc (Nat.le_refl _) _).alloc (by simp) _)) HSU.out).mono ?_; rw [← HSD.out]; rintro e w' ⟨rfl, rfl⟩)
  generalize ((((w.alloc (.cells #[.int .i64 a] 2)).alloc (.cells #[.slice X m xc] 24)).alloc (.cells #[] 2)).alloc (.cells #[] 3)).alloc (.cells #[.int .i64 s] 2) = v1 at HSH ⊢
  generalize w.heap.size + 1 + 1 + 1 + 1 = q3 at HSH ⊢
  generalize w.heap.size + 1 + 1 + 1 = g0 at HSH ⊢
  generalize hBB : w.heap.size + 1 + 1 = B at HSH ⊢
  generalize w.heap.size + 1 = q2 at HSH ⊢
  generalize hq1 : w.heap.size = q1 at HSH ⊢
  have HQ1 := Lib.hid hq1; have HBB := Lib.hid hBB; clear hq1 hBB
  have c2 : v1.cell? ⟨q2, 0, none⟩ = some (.slice X m xc) := HSH.out.b2.cell 0
  go_wp2
  clear c2
  go_loopw [6, 7, 18] (fun o r i wr => ∃ (k go oc gr rc : Nat), k ≤ m ∧ i = .int .i64 k ∧ o = .slice (some ⟨go, 0, none⟩) k oc ∧ r = .slice (some ⟨gr, 0, none⟩) k rc ∧ Hid (ShS B q1 q2 q3 a s X m xc ws w wr k go oc k gr rc)) (fun _ _ i _ => m - (intOf i).toNat)
  case atStart => exact ⟨0, _, 0, _, 0, by omega, rfl, rfl, rfl, HSH⟩
  case round =>
    clear HSH
    obtain ⟨k, go, oc, gr, rc, hk, rfl, rfl, rfl, HS⟩ := hrel
    by_cases hlt : k < m
    · obtain ⟨x, hx⟩ := get_of_lt (xs := ws) (k := k) (by rw [HL.out]; exact hlt)
      obtain ⟨x0, x1⟩ := HWB.out x (List.mem_of_getElem? hx)
      have m1 := Int.mul_nonneg a0 x0
      have m2 := Int.mul_le_mul a1 x1 x0 (by omega)
      obtain ⟨ad, rfl, had, hc⟩ := (HXR.out.below HS.out.bl).int_at hx
      have HXG := Lib.hid hx; clear hx
      have hki : (k : Int) < (m : Int) := by omega
      have hs0 : s ≠ 0 := by omega
      have c1 : wr.cell? ⟨q1, 0, none⟩ = some (.int .i64 a) := HS.out.b1.cell 0
      have c3 : wr.cell? ⟨q3, 0, none⟩ = some (.int .i64 s) := HS.out.b3.cell 0
      have HLE := Lib.hid HS.out.hB
      go_wp2_with (first | (at_builtin; refine wpList_append_row_at _ rfl (.tmp 23) (.tmp 29) 24 rfl B 2 i0 _ 1 8 Tryz.underlying24 HI.out.1 HI.out.2.1 HI.out.2.2.1 HI.out.2.2.2 rfl (by decide) (by decide) _ k oc _ rfl HS.out.ro [.int .i64 _] _ rfl rfl (by simp [Value.oneCell']) (by omega) HLE.out ?_; intro O5 oc5 w5 hO5 hb5 hk5 ho5; obtain ⟨g5, e5, t5⟩ := HS.out.app1 HXG.out hO5 hb5 hk5 ho5; subst e5; have HS5 := Lib.hid t5; have HLE5 := Lib.hid HS5.out.hB; clear hO5 hb5 hk5 ho5 t5) | (at_builtin; refine wpList_append_row_at _ rfl (.tmp 31) (.tmp 33) 186 rfl B 3 i1 _ 1 8 Tryz.underlying186 HJ.out.1 HJ.out.2.1 HJ.out.2.2.1 HJ.out.2.2.2 rfl (by decide) (by decide) _ k rc _ rfl HS5.out.rr [.int .i64 _] _ rfl rfl (by simp [Value.oneCell']) (by omega) HLE5.out ?_; intro O6 oc6 w6 hO6 hb6 hk6 ho6; obtain ⟨g6, e6, t6⟩ := HS5.out.app2 hO6 hb6 hk6 ho6; subst e6; have HS6 := Lib.hid t6; clear hO6 hb6 hk6 ho6 t6))
      go_roundw
      case rel => exact ⟨k + 1, _, _, _, _, by omega, by go_num, rfl, rfl, HS6⟩
      case measure => simp [intOf]; omega
    · have hkm : k = m := by omega
      subst hkm
      rename World => w1
      have hgr := HS.out.rr.lt rfl
      have hgo := HS.out.ro.lt rfl
      have hl1 := HS.out.l1; have hl2 := HS.out.l2; have hzb := HS.out.zb; have hne := HS.out.ne; have hm3 := HS.out.m3
      have HC := Lib.hid (show Cm w1 q1 q2 q3 gr a s X k xc ws from
        { b1 := HS.out.b1, b2 := HS.out.b2, b3 := HS.out.b3, rd := (HXR.out.below HS.out.bl).more HS.out.bl.size, n1 := by omega, n2 := by omega, n3 := Ne.symm hm3, nX := fun ad e => by have := HXB.out ad e; omega, len := HL.out, a0 := a0, a1 := a1, s0 := by omega, s1 := by omega, w0 := HWB.out })
      have HRO := Lib.hid (show Res B w1 2 1 (some ⟨go, 0, none⟩) k oc (intRows (quots a s ws)) by
        have h := HS.out.ro; rwa [take_all (by rw [quots_length]; exact HL.out)] at h)
      have hkc : k ≤ rc := res_cap HS.out.rr
      have HLB := Lib.hid (leftS_bound (a := a) (ws := ws) (by rw [← HSD.out]; exact hs))
      obtain ⟨d, hd⟩ : ∃ d, d = (leftS a ws).toNat := ⟨_, rfl⟩
      have HDD := Lib.hid hd
      have hd30 : d ≤ k := by have := HLB.out.2; have := HL.out; omega
      have HDS := Lib.hid (show (quots a s ws).sum = a - (d : Int) by have := HLB.out.1; rw [hd]; have e : leftS a ws = a - (quots a ws.sum ws).sum := rfl; rw [← HSD.out] at e; omega)
      clear hd
      go_upto_region 8 with (go_at_call 185; refine (sortStable_any hm (Nat.le_refl _) HC.out (SW.start HS.out.rr)).mono ?_; rintro e w6 ⟨rfl, f', hs6, hm6, ht6⟩)
      have HSW := Lib.hid hs6
      have HOR := Lib.hid (ordered_of (r := rests a s ws) (n := k) (g := f') (by simp [rests, HL.out]) hm6 ht6)
      have HFL := Lib.hid (hm6.lt (Nat.le_refl _) (fun j hj => hj))
      have HRO6 := Lib.hid (HRO.out.keep fun g e => hs6.kp g (by injection e with e; injection e with e; omega) (by injection e with e; injection e with e; omega))
      have HB6 := Lib.hid (HS.out.bl.trans (hs6.bl.mono hzb))
      have hb1 : Blk w6 q1 2 #[.int .i64 a] := (hs6.kp q1 HS.out.b1.lt (by omega)).trans HS.out.b1
      have d1 := fun z : Past w6 => Past.cell (p := ⟨q1, 0, none⟩) (v := .int .i64 a) (hb1.cell 0) z
      have HROR := Lib.hid HRO6.out.rd
      have hsub : a - (a - (d : Int)) = (d : Int) := by omega
      have hdk : (d : Int) ≤ (k : Int) := by omega
      have hdc : (d : Int) ≤ (rc : Int) := by omega
      have hdc2 : d ≤ rc := by omega
      clear hs6 hm6 ht6 hb1 HS HC HRO
      go_wp2
      refine wp_region_past (by kernel_rfl) (by kernel_rfl) ?_
      repeat (go_big_quiet_step ((go_simp; go_at_call 97; exact past_same ((impl_total_any (some ⟨go, 0, none⟩) k oc (quots a s ws) _ (by rw [quots_length]; exact HL.out) (by omega) (HROR.out.past (Subtype.property _)) HQS.out).mono (by rw [HDS.out]; exact fun _ _ h => h)))))
      refine wpQuiet_nil ?_
      rintro _ ⟨z, rfl⟩
      have HSWZ := Lib.hid (HSW.out.past z.2)
      have HROZ := Lib.hid (HRO6.out.past z.2)
      have HBZ := Lib.hid (HB6.out.trans (z.2.mono HB6.out.size))
      clear HROR d1 HSW HRO6 HB6
      go_wp2
      go_loopw [46] (fun i wr => ∃ j : Nat, j ≤ d ∧ i = .int .i64 j ∧ Hid (Res B wr 2 1 (some ⟨go, 0, none⟩) k oc (intRows (bump (quots a s ws) (((List.range k).map f').take j)))) ∧ Hid (SW B wr wr gr k rc f') ∧ Hid (Below w.heap.size w wr)) (fun i _ => d - (intOf i).toNat)
      case atStart => exact ⟨0, by omega, rfl, HROZ, Lib.hid (SW.start HSWZ.out.res), HBZ⟩
      case round =>
        clear HROZ HSWZ HBZ
        obtain ⟨j, hj, rfl, HO, HW, HB⟩ := hrel
        rename World => w8
        by_cases hjd : j < d
        · have hji : (j : Int) < (d : Int) := by omega
          have hfj := HFL.out j (by omega)
          have hfi : ((f' j : Nat) : Int) < (k : Int) := by omega
          have hoj : ((List.range k).map f')[j]? = some (f' j) := by simp [show j < k by omega]
          obtain ⟨x, hx⟩ := get_of_lt (xs := bump (quots a s ws) (((List.range k).map f').take j)) (k := f' j) (by rw [bump_length, quots_length, HL.out]; exact hfj)
          have hxb := bump_bound (((List.range k).map f').take j) a0 HQB.out x (List.mem_of_getElem? hx)
          have hlen : (((List.range k).map f').take j).length ≤ 30 := by simp; omega
          obtain ⟨x0, x1⟩ := hxb
          have hx2 : x + 1 ≤ 2000000000 := by omega
          obtain ⟨c1, z1⟩ := HW.out.cell (k := j) (by omega)
          obtain ⟨g', e1, hg1, hg2, c2, z2, hput⟩ := HO.out.putInt hx
          injection e1 with e1; injection e1 with e1; subst e1
          have HP := Lib.hid (hput (x + 1))
          have HXJ := Lib.hid hx; have HOJ := Lib.hid hoj
          have HG1 := Lib.hid hg1
          clear hput hx hoj hlen x1 hg1
          go_wp2
          go_roundw
          case rel =>
            refine ⟨j + 1, by omega, by go_num, Lib.hid ?_, Lib.hid (SW.start (HW.out.res.keep fun g e => ?_)), Lib.hid (HB.out.setCell (p := ⟨go, f' j, none⟩) (by have := HG1.out; show w.heap.size ≤ go; omega) _)⟩
            · rw [take_succ_snoc HOJ.out, bump_snoc]
              rw [show (bump (quots a s ws) (((List.range k).map f').take j)).getD (f' j) 0 = x by rw [List.getD_eq_getElem?_getD, HXJ.out]; rfl]
              exact HP.out
            · injection e with e; injection e with e; subst e
              exact Below.heap_setCell _ _ _ _ (fun e => hne (show go = gr from e.symm))
          case measure => simp [intOf]; omega
        · have hjd2 : j = d := by omega
          have hji : ¬ (j : Int) < (d : Int) := by omega
          have HQ := Lib.hid (show bump (quots a s ws) (((List.range k).map f').take j) = sharesL a ws by
            rw [hjd2, HDD.out]
            have h := HSD.out
            have hor := HOR.out
            rw [h] at hor ⊢
            exact (sharesL_eq (by rw [← h]; exact hs) hor).symm)
          clear hjd2
          go_wp2
          go_ret
          exact ⟨_, oc, rfl, by rw [← HQ.out]; exact HO.out.more hzb, HB.out⟩
end Go.Proofs.YtbjdbpdgacfcpaaGreat
end

/- Shares: the reference's contract. -/
section
namespace Go.Proofs.YtbjdbpdgacfcpaaGreat
open Go.RowKit Go.BigFrame

/-- two rows of numbers of one's own -/
structure Two (B : Nat) (w wr : World) (go no oc gr nr rc : Nat) (O R : List Int) : Prop where
  ro : Res B wr 2 1 (some ⟨go, 0, none⟩) no oc (intRows O)
  rr : Res B wr 2 1 (some ⟨gr, 0, none⟩) nr rc (intRows R)
  ne : go ≠ gr
  bl : Below B w wr
namespace Two
variable {B : Nat} {w wr w' : World} {go no oc gr nr rc : Nat} {O R : List Int}
theorem hB (h : Two B w wr go no oc gr nr rc O R) : B ≤ wr.heap.size := by have := h.ro.lt rfl; omega
theorem app1 (h : Two B w wr go no oc gr nr rc O R) {O5 : Option Addr} {oc5 : Nat} {x : Int} (hR : Res B w' 2 1 O5 (no + 1) oc5 (intRows O ++ [[.int .i64 x]])) (hb : Below B wr w') (hk : KeptBut wr w' (some ⟨go, 0, none⟩)) (ho : blkOf O5 = blkOf (some ⟨go, 0, none⟩) ∨ blkOf O5 = some (wr.heap.size + 1)) :
    ∃ g5, O5 = some ⟨g5, 0, none⟩ ∧ Two B w w' g5 (no + 1) oc5 gr nr rc (O ++ [x]) R := by
  obtain ⟨g5, _, e, _, _, _, _⟩ := hR.at_ (by omega)
  subst e
  have h1 := h.rr.lt rfl; have h3 := h.ne
  have hg : g5 = go ∨ g5 = wr.heap.size + 1 := by
    rcases ho with e | e
    · left; injection e
    · right; injection e
  rw [← intRows_snoc] at hR
  exact ⟨g5, rfl, hR, h.rr.keptBut hk (fun g e => by injection e with e; injection e with e; subst e; intro h9; injection h9 with h9; exact h3 h9.symm), by omega, h.bl.trans hb⟩
theorem flip (h : Two B w wr go no oc gr nr rc O R) : Two B w wr gr nr rc go no oc R O := ⟨h.rr, h.ro, Ne.symm h.ne, h.bl⟩
theorem app2 (h : Two B w wr go no oc gr nr rc O R) {O5 : Option Addr} {oc5 : Nat} {x : Int} (hR : Res B w' 2 1 O5 (nr + 1) oc5 (intRows R ++ [[.int .i64 x]])) (hb : Below B wr w') (hk : KeptBut wr w' (some ⟨gr, 0, none⟩)) (ho : blkOf O5 = blkOf (some ⟨gr, 0, none⟩) ∨ blkOf O5 = some (wr.heap.size + 1)) :
    ∃ g5, O5 = some ⟨g5, 0, none⟩ ∧ Two B w w' go no oc g5 (nr + 1) oc5 O (R ++ [x]) := by
  obtain ⟨g5, e, t⟩ := h.flip.app1 hR hb hk ho
  exact ⟨g5, e, t.flip⟩
theorem past (h : Two B w wr go no oc gr nr rc O R) (hb : Below wr.heap.size wr w') : Two B w w' go no oc gr nr rc O R :=
  ⟨h.ro.past hb, h.rr.past hb, h.ne, h.bl.trans (hb.mono h.hB)⟩
theorem cell1 (h : Two B w wr go no oc gr nr rc O R) {k : Nat} {x : Int} (hx : O[k]? = some x) : wr.cell? ⟨go, k, none⟩ = some (.int .i64 x) ∧ wr.frozen? ⟨go, k, none⟩ = false := by
  obtain ⟨g', h1, _, _, h2, h3, _⟩ := h.ro.putInt hx
  injection h1 with h1; injection h1 with h1; subst h1
  exact ⟨h2, h3⟩
theorem cell2 (h : Two B w wr go no oc gr nr rc O R) {k : Nat} {x : Int} (hx : R[k]? = some x) : wr.cell? ⟨gr, k, none⟩ = some (.int .i64 x) ∧ wr.frozen? ⟨gr, k, none⟩ = false := h.flip.cell1 hx
theorem put1 (h : Two B w wr go no oc gr nr rc O R) {k : Nat} {x : Int} (hx : O[k]? = some x) (v : Int) : Two B w (wr.setCell ⟨go, k, none⟩ (.int .i64 v)) go no oc gr nr rc (O.set k v) R := by
  obtain ⟨g', h1, h2, _, _, _, h4⟩ := h.ro.putInt hx
  injection h1 with h1; injection h1 with h1; subst h1
  exact ⟨h4 v, h.rr.keep (fun g e => by injection e with e; injection e with e; subst e; exact Below.heap_setCell _ _ _ _ (fun e => h.ne (show go = gr from e.symm))), h.ne, h.bl.setCell (p := ⟨go, k, none⟩) h2 _⟩
theorem put2 (h : Two B w wr go no oc gr nr rc O R) {k : Nat} {x : Int} (hx : R[k]? = some x) (v : Int) : Two B w (wr.setCell ⟨gr, k, none⟩ (.int .i64 v)) go no oc gr nr rc O (R.set k v) := (h.flip.put1 hx v).flip
end Two
theorem rests_take (a s : Int) (ws : List Int) (k : Nat) : (rests a s ws).take k = rests a s (ws.take k) := by simp [rests, List.map_take]
theorem rests_get {a s : Int} {ws : List Int} {k : Nat} {x : Int} (h : ws[k]? = some x) : (rests a s ws)[k]? = some (a * x % s) := by simp [rests, h]
theorem rests_length (a s : Int) (ws : List Int) : (rests a s ws).length = ws.length := by simp [rests]
theorem topAt_step {r : List Int} {k : Nat} {x y : Int} (hx : r[k]? = some x) (hy : r[topAt r k]? = some y) : topAt r (k + 1) = if y < x then k else topAt r k := by
  show (if r.getD (topAt r k) 0 < r.getD k 0 then k else topAt r k) = _
  rw [List.getD_eq_getElem?_getD, List.getD_eq_getElem?_getD, hx, hy]; rfl
theorem rounds_bound {a s : Int} {ws : List Int} (ha : 0 ≤ a) (hw : ∀ x ∈ ws, 0 ≤ x) (hsd : s = ws.sum) (hs : 0 < s) : ∀ j, (∀ x ∈ (rounds (quots a s ws) (rests a s ws) j).1, 0 ≤ x ∧ x ≤ a + j) ∧ (∀ x ∈ (rounds (quots a s ws) (rests a s ws) j).2, -1 ≤ x ∧ x < s)
  | 0 => by
    refine ⟨fun x hx => ?_, fun x hx => ?_⟩
    · subst hsd; have := quots_bound ha hw hs x hx; omega
    · have := rests_nonneg hs ws x hx; omega
  | j + 1 => by
    obtain ⟨h1, h2⟩ := rounds_bound ha hw hsd hs j
    have hg : 0 ≤ (rounds (quots a s ws) (rests a s ws) j).1.getD (topAt (rounds (quots a s ws) (rests a s ws) j).2 (rests a s ws).length) 0 ∧ (rounds (quots a s ws) (rests a s ws) j).1.getD (topAt (rounds (quots a s ws) (rests a s ws) j).2 (rests a s ws).length) 0 ≤ a + j := by
      rw [List.getD_eq_getElem?_getD]
      cases he : (rounds (quots a s ws) (rests a s ws) j).1[topAt (rounds (quots a s ws) (rests a s ws) j).2 (rests a s ws).length]? with
      | none => simp; omega
      | some y => exact h1 y (List.mem_of_getElem? he)
    refine ⟨fun x hx => ?_, fun x hx => ?_⟩
    · rcases List.mem_or_eq_of_mem_set hx with h' | h'
      · have := h1 x h'; omega
      · omega
    · rcases List.mem_or_eq_of_mem_set hx with h' | h'
      · exact h2 x h'
      · omega
set_option maxRecDepth 20000 in
set_option maxHeartbeats 8000000 in
theorem spec_l01Share_any (a : Int) (X : Option Addr) (m xc : Nat) (ws : List Int) (w : World) (hl : ws.length = m) (hm0 : 1 ≤ m) (hm : m ≤ 30) (hX : Rd w w.heap.size X 1 (intRows ws)) (hw : ∀ x ∈ ws, 0 ≤ x ∧ x ≤ 1000000000) (ha : 0 ≤ a ∧ a ≤ 1000000000) (hs : 0 < ws.sum) :
    Calls Tryz.prog 120 #[.int .i64 a, .slice X m xc] w fun e w' => ∃ A' c', e = .returned (.slice A' m c') ∧ Res w.heap.size w' 2 1 A' m c' (intRows (sharesL a ws)) ∧ Below w.heap.size w w' := by
  obtain ⟨a0, a1⟩ := ha
  have hs2 := sums_of (xs := ws) (n := 30) (hi := 1000000000) (by omega) (by omega) hw (by omega)
  obtain ⟨HSU, _, hs1⟩ := hs2
  have HSU := Lib.hid HSU
  have hs3 : ws.sum ≤ 30000000000 := by omega
  have HL := Lib.hid hl; clear hl
  have HWB := Lib.hid hw; clear hw
  have HX := Lib.hid hX; clear hX
  have HQS := Lib.hid (quots_sums a0 a1 (fun x hx => (HWB.out x hx).1) hs (by rw [HL.out]; exact hm))
  have HLB := Lib.hid (leftS_bound (a := a) hs)
  obtain ⟨i0, hi0, hz0, hz1, hz2⟩ := info_parts Int64.info
  have HI := Lib.hid (And.intro hi0 (And.intro hz0 (And.intro hz1 hz2))); clear hi0 hz0 hz1 hz2
  obtain ⟨s, hsd⟩ : ∃ s, s = ws.sum := ⟨_, rfl⟩
  have HSD := Lib.hid hsd
  rw [← hsd] at hs hs3 HQS hs1
  clear hsd
  have HT0 := Lib.hid (show Two w.heap.size w ((w.alloc (.cells #[] 2)).alloc (.cells #[] 2)) w.heap.size 0 0 (w.heap.size + 1) 0 0 [] [] from
    ⟨(Res.zero_at (Nat.le_refl _) rfl).alloc _, Res.zero_at (by simp) (by simp), by omega, ((Below.refl _ w).alloc (Nat.le_refl _) _).alloc (by simp) _⟩)
  go_enter Tryz.func120, Tryz.ntmps120
  go_wp2_with (go_at_call 119; refine (spec_l01Sum_any X m xc ws _ HL.out (by omega) HX.out HSU.out).mono ?_; rw [← HSD.out]; rintro e w' ⟨rfl, rfl⟩)
  go_loopw [6, 7, 8] (fun o r i wr => ∃ (k go oc gr rc : Nat), k ≤ m ∧ i = .int .i64 k ∧ o = .slice (some ⟨go, 0, none⟩) k oc ∧ r = .slice (some ⟨gr, 0, none⟩) k rc ∧ Hid (Two w.heap.size w wr go k oc gr k rc ((quots a s ws).take k) ((rests a s ws).take k))) (fun _ _ i _ => m - (intOf i).toNat)
  case atStart => exact ⟨0, _, 0, _, 0, by omega, rfl, rfl, rfl, HT0⟩
  case round =>
    clear HT0
    obtain ⟨k, go, oc, gr, rc, hk, rfl, rfl, rfl, HT⟩ := hrel
    by_cases hlt : k < m
    · obtain ⟨x, hx⟩ := get_of_lt (xs := ws) (k := k) (by rw [HL.out]; exact hlt)
      obtain ⟨x0, x1⟩ := HWB.out x (List.mem_of_getElem? hx)
      have m1 := Int.mul_nonneg a0 x0
      have m2 := Int.mul_le_mul a1 x1 x0 (by omega)
      have HR := Lib.hid (HX.out.below HT.out.bl)
      obtain ⟨ad, rfl, had, hc⟩ := HR.out.int_at hx
      have HXG := Lib.hid hx; clear hx
      have hki : (k : Int) < (m : Int) := by omega
      have HLE := Lib.hid HT.out.hB
      have HSZ := Lib.hid (Nat.lt_of_lt_of_le had HLE.out)
      have HC := Lib.hid hc
      go_upto_region 7 with (at_builtin; refine wpList_append_row_at _ rfl (.tmp 22) (.tmp 31) 24 rfl w.heap.size 2 i0 _ 1 8 Tryz.underlying24 HI.out.1 HI.out.2.1 HI.out.2.2.1 HI.out.2.2.2 rfl (by decide) (by decide) _ k oc _ rfl HT.out.ro [.int .i64 _] _ rfl rfl (by simp [Value.oneCell']) (by omega) HLE.out ?_; intro O5 oc5 w5 hO5 hb5 hk5 ho5)
      obtain ⟨g5, e5, t5⟩ := HT.out.app1 hO5 hb5 hk5 ho5
      subst e5
      have HT5 := Lib.hid t5
      have hc : w5.cell? (ad.add k) = some (.int .i64 x) := (hb5.cell (p := ad.add k) (by rw [block_of_add]; exact had)).trans HC.out
      have HLE5 := Lib.hid HT5.out.hB
      clear hO5 hb5 hk5 ho5 t5
      go_wp2_with (at_builtin; refine wpList_append_row_at _ rfl (.tmp 33) (.tmp 42) 24 rfl w.heap.size 2 i0 _ 1 8 Tryz.underlying24 HI.out.1 HI.out.2.1 HI.out.2.2.1 HI.out.2.2.2 rfl (by decide) (by decide) _ k rc _ rfl HT5.out.rr [.int .i64 _] _ rfl rfl (by simp [Value.oneCell']) (by omega) HLE5.out ?_; intro O6 oc6 w6 hO6 hb6 hk6 ho6)
      obtain ⟨g6, e6, t6⟩ := HT5.out.app2 hO6 hb6 hk6 ho6
      subst e6
      have HT6 := Lib.hid t6
      clear hO6 hb6 hk6 ho6 t6
      go_wp2
      go_roundw
      case rel => exact ⟨k + 1, _, _, _, _, by omega, by go_num, rfl, rfl, Lib.hid (by rw [take_succ_snoc (quots_get HXG.out), take_succ_snoc (rests_get HXG.out)]; exact HT6.out)⟩
      case measure => simp [intOf]; omega
    · have hkm : k = m := by omega
      subst hkm
      rename World => w1
      have HT2 := Lib.hid (show Two w.heap.size w w1 go k oc gr k rc (rounds (quots a s ws) (rests a s ws) 0).1 (rounds (quots a s ws) (rests a s ws) 0).2 by
        have h := HT.out
        rw [take_all (by rw [quots_length]; exact HL.out), take_all (by rw [rests_length]; exact HL.out)] at h
        exact h)
      clear HT
      have HRB := Lib.hid (rounds_bound (a := a) (s := s) (ws := ws) a0 (fun x hx => (HWB.out x hx).1) HSD.out hs)
      have HRL := Lib.hid (fun j => rounds_length (quots a s ws) (rests a s ws) j)
      obtain ⟨d, hd⟩ : ∃ d, d = (leftS a ws).toNat := ⟨_, rfl⟩
      have HDD := Lib.hid hd
      have hd30 : d ≤ 30 := by have := HLB.out.2; have := HL.out; omega
      have HDS := Lib.hid (show (quots a s ws).sum = a - (d : Int) by have := HLB.out.1; rw [hd]; have e : leftS a ws = a - (quots a ws.sum ws).sum := rfl; rw [← HSD.out] at e; omega)
      clear hd
      go_wp2_with (go_at_call 119; refine (spec_l01Sum_any (some ⟨go, 0, none⟩) k oc (quots a s ws) _ (by rw [quots_length]; exact HL.out) (by omega) HT2.out.ro.rd HQS.out).mono ?_; rw [HDS.out]; rintro e w' ⟨rfl, rfl⟩)
      go_loopw [9] (fun l wr => ∃ j : Nat, j ≤ d ∧ l = .int .i64 ((d : Int) - (j : Int)) ∧ Hid (Two w.heap.size w wr go k oc gr k rc (rounds (quots a s ws) (rests a s ws) j).1 (rounds (quots a s ws) (rests a s ws) j).2)) (fun l _ => (intOf l).toNat)
      case atStart => exact ⟨0, by omega, by congr 1; omega, HT2⟩
      case round =>
        clear HT2
        obtain ⟨j, hj, rfl, HT⟩ := hrel
        rename World => w2
        by_cases hjd : j < d
        · have hpos : (0 : Int) < (d : Int) - (j : Int) := by omega
          obtain ⟨O, hO⟩ : ∃ O, O = (rounds (quots a s ws) (rests a s ws) j).1 := ⟨_, rfl⟩
          obtain ⟨R, hR⟩ : ∃ R, R = (rounds (quots a s ws) (rests a s ws) j).2 := ⟨_, rfl⟩
          have hOl : O.length = k := by rw [hO, (HRL.out j).1, quots_length]; exact HL.out
          have hRl : R.length = k := by rw [hR, (HRL.out j).2, rests_length]; exact HL.out
          have hOB : ∀ x ∈ O, 0 ≤ x ∧ x ≤ a + j := by rw [hO]; exact (HRB.out j).1
          have hRB : ∀ x ∈ R, -1 ≤ x ∧ x < s := by rw [hR]; exact (HRB.out j).2
          rw [← hO, ← hR] at HT
          have HO := Lib.hid hO; have HR := Lib.hid hR; have HOL := Lib.hid hOl; have HRL2 := Lib.hid hRl; have HOB := Lib.hid hOB; have HRB2 := Lib.hid hRB
          clear hO hR hOl hRl hOB hRB
          go_wp2
          go_loopw [10, 11] (fun b i wr => ∃ q : Nat, q ≤ k ∧ i = .int .i64 q ∧ b = .int .i64 ((topAt R q : Nat) : Int) ∧ Hid (Below w2.heap.size w2 wr)) (fun _ i _ => k - (intOf i).toNat)
          case atStart => exact ⟨0, by omega, rfl, rfl, Lib.hid (Below.refl _ _)⟩
          case round =>
            obtain ⟨q, hq, rfl, rfl, HBB⟩ := hrel
            rename World => w3
            have HT3 := Lib.hid (HT.out.past HBB.out)
            by_cases hqk : q < k
            · have hqi : (q : Int) < (k : Int) := by omega
              have htq : topAt R q < k := by
                rcases Nat.eq_zero_or_pos q with h | h
                · subst h; exact hqk
                · have := topAt_lt R q h; omega
              have hti : ((topAt R q : Nat) : Int) < (k : Int) := by omega
              obtain ⟨x, hx⟩ := get_of_lt (xs := R) (k := q) (by rw [HRL2.out]; exact hqk)
              obtain ⟨y, hy⟩ := get_of_lt (xs := R) (k := topAt R q) (by rw [HRL2.out]; exact htq)
              have HE := Lib.hid (topAt_step hx hy)
              have d1 := fun z : Past w3 => Past.cell (HT3.out.cell2 hx).1 z
              have d2 := fun z : Past w3 => Past.cell (HT3.out.cell2 hy).1 z
              clear hx hy
              by_cases hxy : y < x
              · have hb : decide (y < x) = true := by simpa using hxy
                have HXY := Lib.hid hxy; clear hxy
                go_wp2
                refine wp_region_past (by kernel_rfl) (by kernel_rfl) ?_
                repeat (go_big_quiet_step (fail))
                refine wpQuiet_nil ?_
                rintro _ ⟨z, rfl⟩
                go_wp2
                go_roundw
                case rel => exact ⟨q + 1, by omega, by go_num, by rw [HE.out, if_pos HXY.out], Lib.hid (HBB.out.trans (z.2.mono HBB.out.size))⟩
                case measure => simp [intOf]; omega
              · have hb : decide (y < x) = false := by simpa using hxy
                have HXY := Lib.hid hxy; clear hxy
                go_wp2
                refine wp_region_past (by kernel_rfl) (by kernel_rfl) ?_
                repeat (go_big_quiet_step (fail))
                refine wpQuiet_nil ?_
                rintro _ ⟨z, rfl⟩
                go_wp2
                go_roundw
                case rel => exact ⟨q + 1, by omega, by go_num, by rw [HE.out, if_neg (by have := HXY.out; omega)], Lib.hid (HBB.out.trans (z.2.mono HBB.out.size))⟩
                case measure => simp [intOf]; omega
            · have hqe : q = k := by omega
              subst hqe
              have htq : topAt R q < q := topAt_lt R q (by omega)
              have hti : ((topAt R q : Nat) : Int) < (q : Int) := by omega
              obtain ⟨x, hx⟩ := get_of_lt (xs := O) (k := topAt R q) (by rw [HOL.out]; exact htq)
              obtain ⟨y, hy⟩ := get_of_lt (xs := R) (k := topAt R q) (by rw [HRL2.out]; exact htq)
              obtain ⟨x0, x1⟩ := HOB.out x (List.mem_of_getElem? hx)
              obtain ⟨c1, z1⟩ := HT3.out.cell1 hx
              have HT4 := Lib.hid (HT3.out.put1 hx (x + 1))
              have HGX := Lib.hid hx; have HGY := Lib.hid hy
              obtain ⟨tq, htq2⟩ : ∃ tq, tq = topAt R q := ⟨_, rfl⟩
              have HTQ := Lib.hid htq2
              rw [← htq2] at hti c1 z1 HT4 HGX HGY ⊢
              clear htq2 hx hy htq
              go_upto_region 18 with fail
              generalize w3.setCell ⟨go, tq, none⟩ (.int .i64 (x + 1)) = w4 at HT4 ⊢
              obtain ⟨c2, z2⟩ := HT4.out.cell2 HGY.out
              have HT5 := Lib.hid (HT4.out.put2 HGY.out (-1))
              clear c1 z1
              go_wp2
              go_roundw
              case rel =>
                refine ⟨j + 1, by omega, by congr 1; omega, Lib.hid ?_⟩
                have hrl : (rests a s ws).length = q := by rw [rests_length]; exact HL.out
                show Two w.heap.size w _ go q oc gr q rc ((rounds (quots a s ws) (rests a s ws) j).1.set (topAt (rounds (quots a s ws) (rests a s ws) j).2 (rests a s ws).length) ((rounds (quots a s ws) (rests a s ws) j).1.getD (topAt (rounds (quots a s ws) (rests a s ws) j).2 (rests a s ws).length) 0 + 1)) ((rounds (quots a s ws) (rests a s ws) j).2.set (topAt (rounds (quots a s ws) (rests a s ws) j).2 (rests a s ws).length) (-1))
                rw [hrl, ← HO.out, ← HR.out, ← HTQ.out, show O.getD tq 0 = x by rw [List.getD_eq_getElem?_getD, HGX.out]; rfl]
                exact HT5.out
              case measure => simp [intOf]; omega
        · have hje : j = d := by omega
          have hpos : ¬ (0 : Int) < (d : Int) - (j : Int) := by omega
          have HQ := Lib.hid (show (rounds (quots a s ws) (rests a s ws) j).1 = sharesL a ws by unfold sharesL; rw [hje, HDD.out, HSD.out])
          clear hje
          go_wp2
          go_ret
          exact ⟨_, oc, rfl, by rw [← HQ.out]; exact HT.out.ro, HT.out.bl⟩
end Go.Proofs.YtbjdbpdgacfcpaaGreat
end
