/- Parts of a proof, one after another: PtD. No condition. -/
import Derived.Test.YtkdfdbcpbgganaaGreatDoorK9
import Derived.Test.YtkdfdbcpbgganaaGreatDoorK10
import Derived.Test.YtkdfdbcpbgganaaGreatDoorK12
import Derived.Test.YtkdfdbcpbgganaaGreatDoorK13
import Derived.Test.YtkdfdbcpbgganaaGreatDoorK14
import Derived.Deep.RegionHeld3
/- Draws of policies' texts and of the sum for a premium. -/
section
namespace Go.Proofs.YtkdfdbcpbgganaaGreatDoor
open Go.RowKit Go.BigFrame

set_option maxHeartbeats 4000000 in
theorem spec_DrawReadPolicy_any (K : Code) (hK : K.Ok) (w : World) (hX : Rd w w.heap.size K.A 1 (byteRows K.bs)) :
    Calls Tryz.prog 24 #[.slice K.A K.n K.c] w fun e w' => TxtE w w' e := by
  go_enter Tryz.func24, Tryz.ntmps24
  go_wp2_with fail
  refine (spec_l01From_any K hK _ hX).mono ?_
  rintro e w1 ⟨g, rfl, hg, hb, hS⟩
  have hT0 := Nx.refl hS
  go_wp2_with fail
  refine (spec_l10Draw_any K hK g _ _ hT0).mono ?_
  rintro e w2 ⟨b, A, n, c, p, rfl, hE, hn1, hl, hf1, hr1, hp, hT1⟩
  unfold Policy.row
  clear hT0 hE hn1 hl hf1 hr1 hp
  have hT2 := (hT1.alloc (.cells #[.int .i64 b.first, .slice A n c, .int .i64 b.rate] 40)).alloc (.cells #[.int .i64 p.kind, .int .i64 p.age, .int .i64 p.years, .int .i64 p.sum, .int .i64 p.load] 42)
  obtain ⟨_, _, hY, _⟩ := two_boxes w2 [.int .i64 b.first, .slice A n c, .int .i64 b.rate] [.int .i64 p.kind, .int .i64 p.age, .int .i64 p.years, .int .i64 p.sum, .int .i64 p.load] 40 42
  go_upto_region 3 with (fail)
  generalize (w2.alloc _).alloc _ = W3 at hT2 hY ⊢
  clear hT1
  have hcY := Lib.hid (Blk.agg (cs := [.int .i64 p.kind, .int .i64 p.age, .int .i64 p.years, .int .i64 p.sum, .int .i64 p.load]) hY 0 [.int .i64 p.kind, .int .i64 p.age, .int .i64 p.years, .int .i64 p.sum, .int .i64 p.load] rfl)
  go_wp2_with (refine wpList_load_agg rfl 42 _ rfl ⟨w2.heap.size + 1, 0, none⟩ rfl [.int .i64 p.kind, .int .i64 p.age, .int .i64 p.years, .int .i64 p.sum, .int .i64 p.load] hcY.out _ Tryz.underlying42 rfl Policy.size ?_)
  refine (spec_PolicyText_any p _).mono ?_
  rintro e w3 ⟨rfl, hb3⟩
  have hT := hT2.past hb3
  have hz := polT_size p
  clear hb3 hT2 hY hcY
  generalize S (polT p) = J at hz ⊢
  go_wp2_with (first | (go_at_call 32; refine (spec_l01Next_any K hK g _ _ _ (Nx.refl (Nx.src (by first | exact hT | exact hT.alloc _ | exact (hT.alloc _).alloc _ | exact hT.drew)))).mono ?_; rintro e w3 ⟨x, rfl, ⟨hx0, hx1⟩, hN⟩; have hT := Nx.trans (by first | exact hT | exact hT.alloc _ | exact (hT.alloc _).alloc _ | exact hT.drew) hN) | (go_at_call 44; refine (spec_l01Damage_any K hK g _ J (by omega) _ hT).mono ?_; rintro e w5 ⟨r, rfl, hr, hT⟩))
  all_goals (go_ret; exact ⟨_, rfl, by omega, hb.trans (hT.out hg)⟩)

def PolD (w w' : World) (e : Ending) : Prop := ∃ p : Policy, e = .returned (.agg p.row.toArray) ∧ p.fits ∧ Below w.heap.size w w'
set_option maxRecDepth 100000 in
set_option maxHeartbeats 8000000 in
theorem spec_DrawPolicyText_any (K : Code) (hK : K.Ok) (w : World) (hX : Rd w w.heap.size K.A 1 (byteRows K.bs)) :
    Calls Tryz.prog 21 #[.slice K.A K.n K.c] w fun e w' => PolD w w' e := by
  have hbw := (Below.refl w.heap.size w).alloc (Nat.le_refl _) (.cells #[.int .i64 0, .int .i64 0, .int .i64 0, .int .i64 0, .int .i64 0] 42)
  have HZ0 := Lib.hid (Blk.new w 42 #[.int .i64 0, .int .i64 0, .int .i64 0, .int .i64 0, .int .i64 0])
  have HX := Lib.hid (hX.past hbw); clear hX
  go_enter Tryz.func21, Tryz.ntmps21
  go_upto_region 1 with (fail)
  generalize w.alloc _ = W at hbw HZ0 HX ⊢
  have hWz : w.heap.size < W.heap.size := HZ0.out.lt
  go_wp2_with fail
  refine (spec_l01From_any K hK _ HX.out).mono ?_
  rintro e w1 ⟨g, rfl, hg, hb, hS⟩
  have HZ1 := Lib.hid (HZ0.out.below' hb)
  have HB1 := Lib.hid (hbw.trans (hb.mono hbw.size))
  have hgw : w.heap.size < g := by omega
  have hgl : g < w1.heap.size := hS.lt
  have hT0 := Nx.refl hS
  clear HZ0 HX hb hS hg hbw
  go_wp2_with fail
  refine (spec_l10Draw_any K hK g _ _ hT0).mono ?_
  rintro e w2 ⟨b, A, n, c, p, rfl, hE, hn1, hl, hf1, hr1, hp, hT1⟩
  unfold Policy.row
  have hfit := hp.fits
  clear hT0 hE hn1 hl hf1 hr1 hp
  have hT2 := (hT1.alloc (.cells #[.int .i64 b.first, .slice A n c, .int .i64 b.rate] 40)).alloc (.cells #[.int .i64 p.kind, .int .i64 p.age, .int .i64 p.years, .int .i64 p.sum, .int .i64 p.load] 42)
  obtain ⟨_, _, hY, _⟩ := two_boxes w2 [.int .i64 b.first, .slice A n c, .int .i64 b.rate] [.int .i64 p.kind, .int .i64 p.age, .int .i64 p.years, .int .i64 p.sum, .int .i64 p.load] 40 42
  have hgl2 : g < w2.heap.size := hT1.src.lt
  have hw12 : w1.heap.size ≤ w2.heap.size := hT1.size
  go_upto_region 3 with (fail)
  generalize (w2.alloc _).alloc _ = W3 at hT2 hY ⊢
  obtain ⟨Gp, hGp⟩ : ∃ Gp, w2.heap.size + 1 = Gp := ⟨_, rfl⟩
  rw [hGp] at hY ⊢
  have hgp : g < Gp := by omega
  have hwp : w.heap.size < Gp := by omega
  have hwp1 : w1.heap.size ≤ Gp := by omega
  have HY := Lib.hid hY
  have HO := Lib.hid hT2
  have hT := Nx.refl hT2.src
  clear hT1 hY hT2 hGp
  go_upto_region 5 with (first | ((go_at_call 32; refine (spec_l01Next_any K hK g _ _ _ (Nx.refl (Nx.src (by first | exact hT | exact hT.alloc _ | exact (hT.alloc _).alloc _ | exact hT.drew)))).mono ?_; rintro e w3 ⟨x, rfl, ⟨hx0, hx1⟩, hN⟩; have hT := Nx.trans (by first | exact hT | exact hT.alloc _ | exact (hT.alloc _).alloc _ | exact hT.drew) hN); have hY3 := HY.out.nx hT (Nat.ne_of_gt hgp); have y1 : w3.cell? ⟨Gp, 1, none⟩ = some (.int .i64 p.age) := hY3.cell 1; have z1 : w3.frozen? ⟨Gp, 1, none⟩ = false := hY3.frozen 1) | ((go_at_call 33; refine (spec_l01Pick_new K hK g _ _ _ _ (by first | exact hT | exact hT.alloc _ | exact (hT.alloc _).alloc _ | exact hT.drew) (by rfl) (by decide) (by decide) (by rfl)).mono ?_; rintro e w3 ⟨x, rfl, hx, hT⟩; simp only [OneOf, Value.int.injEq, true_and, or_false] at hx); have hY3 := HY.out.nx hT (Nat.ne_of_gt hgp); have y1 : w3.cell? ⟨Gp, 1, none⟩ = some (.int .i64 p.age) := hY3.cell 1; have z1 : w3.frozen? ⟨Gp, 1, none⟩ = false := hY3.frozen 1))
  · have hYW : Blk (w3.setCell ⟨Gp, 1, none⟩ (.int .i64 x)) Gp 42 #[.int .i64 p.kind, .int .i64 x, .int .i64 p.years, .int .i64 p.sum, .int .i64 p.load] := (by simpa using hY3.set_ 1 (.int .i64 x))
    have hNW : Nx K g w1 (w3.setCell ⟨Gp, 1, none⟩ (.int .i64 x)) := (HO.out.trans hT).kept hgl (Nat.le_refl _) ((Below.refl _ _).setCell (p := ⟨Gp, 1, none⟩) (by show w1.heap.size ≤ Gp; omega) (.int .i64 x))
    clear y1 z1 hY3
    generalize w3.setCell ⟨Gp, 1, none⟩ (.int .i64 x) = W5 at hYW hNW ⊢
    have hZW := HZ1.out.nx hNW (Nat.ne_of_lt hgw)
    have HBW := Lib.hid (HB1.out.trans (hNW.out (by omega)))
    have hcO := Lib.hid (Blk.agg (cs := [.int .i64 p.kind, .int .i64 x, .int .i64 p.years, .int .i64 p.sum, .int .i64 p.load]) hYW 0 [.int .i64 p.kind, .int .i64 x, .int .i64 p.years, .int .i64 p.sum, .int .i64 p.load] rfl)
    have H1 : Hid (∀ v ∈ ([.int .i64 p.kind, .int .i64 x, .int .i64 p.years, .int .i64 p.sum, .int .i64 p.load] : List Value), v.oneCell' = true) := Lib.hid (by simp [Value.oneCell'])
    clear hYW hNW
    go_wp2_with (first | (refine wpList_load_agg rfl 42 _ rfl ⟨Gp, 0, none⟩ rfl [.int .i64 p.kind, .int .i64 x, .int .i64 p.years, .int .i64 p.sum, .int .i64 p.load] hcO.out _ Tryz.underlying42 rfl Policy.size ?_) | (refine wpList_store_agg rfl 42 _ _ rfl (w.heap.size) 0 [.int .i64 p.kind, .int .i64 x, .int .i64 p.years, .int .i64 p.sum, .int .i64 p.load] rfl rfl 42 #[.int .i64 0, .int .i64 0, .int .i64 0, .int .i64 0, .int .i64 0] hZW Policy.size (by simp) H1.out ?_))
    intro w6 hR6 hg6 _
    have hR6' : Blk w6 (w.heap.size) 42 #[.int .i64 p.kind, .int .i64 x, .int .i64 p.years, .int .i64 p.sum, .int .i64 p.load] := hR6
    have r0 : w6.cell? ⟨w.heap.size, 0, none⟩ = some (.int .i64 p.kind) := hR6'.cell 0
    have r1 : w6.cell? ⟨w.heap.size, 1, none⟩ = some (.int .i64 (x)) := hR6'.cell 1
    have r2 : w6.cell? ⟨w.heap.size, 2, none⟩ = some (.int .i64 p.years) := hR6'.cell 2
    have r3 : w6.cell? ⟨w.heap.size, 3, none⟩ = some (.int .i64 p.sum) := hR6'.cell 3
    have r4 : w6.cell? ⟨w.heap.size, 4, none⟩ = some (.int .i64 p.load) := hR6'.cell 4
    go_wp2
    refine bodyPost_ret (v := .agg #[.int .i64 p.kind, .int .i64 x, .int .i64 p.years, .int .i64 p.sum, .int .i64 p.load]) (by simp [results, Tryz.results21, go_sem, r0, r1, r2, r3, r4]) rfl ?_
    exact ⟨⟨p.kind, x, p.years, p.sum, p.load⟩, rfl, ⟨hfit.1, by show In64 x; unfold In64; omega, hfit.2.2⟩, HBW.out.grown hg6 (Nat.le_of_lt hZW.lt) (fun k hk => by injection hk with hk; omega)⟩
  · have hYW : Blk (w3) Gp 42 #[.int .i64 p.kind, .int .i64 p.age, .int .i64 p.years, .int .i64 p.sum, .int .i64 p.load] := hY3
    have hNW : Nx K g w1 (w3) := HO.out.trans hT
    clear y1 z1 hY3
    generalize w3 = W5 at hYW hNW ⊢
    have hZW := HZ1.out.nx hNW (Nat.ne_of_lt hgw)
    have HBW := Lib.hid (HB1.out.trans (hNW.out (by omega)))
    have hcO := Lib.hid (Blk.agg (cs := [.int .i64 p.kind, .int .i64 p.age, .int .i64 p.years, .int .i64 p.sum, .int .i64 p.load]) hYW 0 [.int .i64 p.kind, .int .i64 p.age, .int .i64 p.years, .int .i64 p.sum, .int .i64 p.load] rfl)
    have H1 : Hid (∀ v ∈ ([.int .i64 p.kind, .int .i64 p.age, .int .i64 p.years, .int .i64 p.sum, .int .i64 p.load] : List Value), v.oneCell' = true) := Lib.hid (by simp [Value.oneCell'])
    clear hYW hNW
    go_wp2_with (first | (refine wpList_load_agg rfl 42 _ rfl ⟨Gp, 0, none⟩ rfl [.int .i64 p.kind, .int .i64 p.age, .int .i64 p.years, .int .i64 p.sum, .int .i64 p.load] hcO.out _ Tryz.underlying42 rfl Policy.size ?_) | (refine wpList_store_agg rfl 42 _ _ rfl (w.heap.size) 0 [.int .i64 p.kind, .int .i64 p.age, .int .i64 p.years, .int .i64 p.sum, .int .i64 p.load] rfl rfl 42 #[.int .i64 0, .int .i64 0, .int .i64 0, .int .i64 0, .int .i64 0] hZW Policy.size (by simp) H1.out ?_))
    intro w6 hR6 hg6 _
    have hR6' : Blk w6 (w.heap.size) 42 #[.int .i64 p.kind, .int .i64 p.age, .int .i64 p.years, .int .i64 p.sum, .int .i64 p.load] := hR6
    have r0 : w6.cell? ⟨w.heap.size, 0, none⟩ = some (.int .i64 p.kind) := hR6'.cell 0
    have r1 : w6.cell? ⟨w.heap.size, 1, none⟩ = some (.int .i64 (p.age)) := hR6'.cell 1
    have r2 : w6.cell? ⟨w.heap.size, 2, none⟩ = some (.int .i64 p.years) := hR6'.cell 2
    have r3 : w6.cell? ⟨w.heap.size, 3, none⟩ = some (.int .i64 p.sum) := hR6'.cell 3
    have r4 : w6.cell? ⟨w.heap.size, 4, none⟩ = some (.int .i64 p.load) := hR6'.cell 4
    go_wp2
    refine bodyPost_ret (v := .agg #[.int .i64 p.kind, .int .i64 p.age, .int .i64 p.years, .int .i64 p.sum, .int .i64 p.load]) (by simp [results, Tryz.results21, go_sem, r0, r1, r2, r3, r4]) rfl ?_
    exact ⟨⟨p.kind, p.age, p.years, p.sum, p.load⟩, rfl, ⟨hfit.1, by exact hfit.2.1, hfit.2.2⟩, HBW.out.grown hg6 (Nat.le_of_lt hZW.lt) (fun k hk => by injection hk with hk; omega)⟩

/-- what lies there while the sum for a premium is drawn -/
structure PV (K : Code) (g : Nat) (w W : World) (B : Nat) (Gb Gp : Nat) (b : Bas) (A : Option Addr) (n c : Nat) (p : Policy) : Prop where
  src : Src K g W
  bb : Blk W Gb 40 #[.int .i64 b.first, .slice A n c, .int .i64 b.rate]
  pb : Blk W Gp 42 #[.int .i64 p.kind, .int .i64 p.age, .int .i64 p.years, .int .i64 p.sum, .int .i64 p.load]
  za : Blk W w.heap.size 40 #[.int .i64 0, .slice none 0 0, .int .i64 0]
  zb : Blk W (w.heap.size + 1) 42 #[.int .i64 0, .int .i64 0, .int .i64 0, .int .i64 0, .int .i64 0]
  li : Res B W 2 1 A n c (intRows b.lives)
  out : Below w.heap.size w W
  g0 : w.heap.size + 1 < g
  g1 : g < B
  g2 : g < Gb
  g3 : g < Gp
section
variable {K : Code} {g : Nat} {w W W' : World} {B Gb Gp : Nat} {b : Bas} {A : Option Addr} {n c : Nat} {p : Policy}
theorem PV.nxx (h : PV K g w W B Gb Gp b A n c p) (hN : Nx K g W W') : PV K g w W' B Gb Gp b A n c p :=
  ⟨hN.src, h.bb.nx hN (Nat.ne_of_gt h.g2), h.pb.nx hN (Nat.ne_of_gt h.g3), h.za.nx hN (by have := h.g0; omega), h.zb.nx hN (by have := h.g0; omega), h.li.nx hN h.g1, h.out.trans (hN.out (by have := h.g0; omega)), h.g0, h.g1, h.g2, h.g3⟩
theorem PV.nx_ (h : PV K g w W B Gb Gp b A n c p) : Nx K g W W := Nx.refl h.src
theorem PV.alloc (h : PV K g w W B Gb Gp b A n c p) (o : Obj) : PV K g w (W.alloc o) B Gb Gp b A n c p := h.nxx (h.nx_.alloc o)
theorem PV.drew (h : PV K g w W B Gb Gp b A n c p) : PV K g w W.drew B Gb Gp b A n c p := h.nxx h.nx_.drew
theorem PV.cells (h : PV K g w W B Gb Gp b A n c p) : W.cell? ⟨Gb, 0, none⟩ = some (.int .i64 b.first) ∧ W.cell? ⟨Gb, 1, none⟩ = some (.slice A n c) ∧ W.cell? ⟨Gb, 2, none⟩ = some (.int .i64 b.rate) ∧ W.cell? ⟨Gp, 0, none⟩ = some (.int .i64 p.kind) ∧ W.cell? ⟨Gp, 1, none⟩ = some (.int .i64 p.age) ∧ W.cell? ⟨Gp, 2, none⟩ = some (.int .i64 p.years) ∧ W.cell? ⟨Gp, 3, none⟩ = some (.int .i64 p.sum) ∧ W.cell? ⟨Gp, 4, none⟩ = some (.int .i64 p.load) := ⟨h.bb.cell 0, h.bb.cell 1, h.bb.cell 2, h.pb.cell 0, h.pb.cell 1, h.pb.cell 2, h.pb.cell 3, h.pb.cell 4⟩
theorem PV.three (h : PV K g w W B Gb Gp b A n c p) : (((W.setCell ⟨w.heap.size, 0, none⟩ (.int .i64 b.first)).setCell ⟨w.heap.size, 1, none⟩ (.slice A n c)).setCell ⟨w.heap.size, 2, none⟩ (.int .i64 b.rate)).cell? ⟨Gb, 0, none⟩ = some (.int .i64 b.first) ∧ (((W.setCell ⟨w.heap.size, 0, none⟩ (.int .i64 b.first)).setCell ⟨w.heap.size, 1, none⟩ (.slice A n c)).setCell ⟨w.heap.size, 2, none⟩ (.int .i64 b.rate)).cell? ⟨Gb, 1, none⟩ = some (.slice A n c) ∧ (((W.setCell ⟨w.heap.size, 0, none⟩ (.int .i64 b.first)).setCell ⟨w.heap.size, 1, none⟩ (.slice A n c)).setCell ⟨w.heap.size, 2, none⟩ (.int .i64 b.rate)).cell? ⟨Gb, 2, none⟩ = some (.int .i64 b.rate) ∧ (((W.setCell ⟨w.heap.size, 0, none⟩ (.int .i64 b.first)).setCell ⟨w.heap.size, 1, none⟩ (.slice A n c)).setCell ⟨w.heap.size, 2, none⟩ (.int .i64 b.rate)).cell? ⟨Gp, 0, none⟩ = some (.int .i64 p.kind) ∧ (((W.setCell ⟨w.heap.size, 0, none⟩ (.int .i64 b.first)).setCell ⟨w.heap.size, 1, none⟩ (.slice A n c)).setCell ⟨w.heap.size, 2, none⟩ (.int .i64 b.rate)).cell? ⟨Gp, 1, none⟩ = some (.int .i64 p.age) ∧ (((W.setCell ⟨w.heap.size, 0, none⟩ (.int .i64 b.first)).setCell ⟨w.heap.size, 1, none⟩ (.slice A n c)).setCell ⟨w.heap.size, 2, none⟩ (.int .i64 b.rate)).cell? ⟨Gp, 2, none⟩ = some (.int .i64 p.years) ∧ (((W.setCell ⟨w.heap.size, 0, none⟩ (.int .i64 b.first)).setCell ⟨w.heap.size, 1, none⟩ (.slice A n c)).setCell ⟨w.heap.size, 2, none⟩ (.int .i64 b.rate)).cell? ⟨Gp, 3, none⟩ = some (.int .i64 p.sum) ∧ (((W.setCell ⟨w.heap.size, 0, none⟩ (.int .i64 b.first)).setCell ⟨w.heap.size, 1, none⟩ (.slice A n c)).setCell ⟨w.heap.size, 2, none⟩ (.int .i64 b.rate)).cell? ⟨Gp, 4, none⟩ = some (.int .i64 p.load) := by
  have e1 : Gb ≠ w.heap.size := by have := h.g0; have := h.g2; omega
  have e2 : Gp ≠ w.heap.size := by have := h.g0; have := h.g3; omega
  have h1 := (((h.bb.far (p := ⟨w.heap.size, 0, none⟩) e1 (.int .i64 b.first)).far (p := ⟨w.heap.size, 1, none⟩) e1 (.slice A n c)).far (p := ⟨w.heap.size, 2, none⟩) e1 (.int .i64 b.rate))
  have h2 := (((h.pb.far (p := ⟨w.heap.size, 0, none⟩) e2 (.int .i64 b.first)).far (p := ⟨w.heap.size, 1, none⟩) e2 (.slice A n c)).far (p := ⟨w.heap.size, 2, none⟩) e2 (.int .i64 b.rate))
  exact ⟨h1.cell 0, h1.cell 1, h1.cell 2, h2.cell 0, h2.cell 1, h2.cell 2, h2.cell 3, h2.cell 4⟩
theorem PV.eight (h : PV K g w W B Gb Gp b A n c p) : ((((((((W.setCell ⟨w.heap.size, 0, none⟩ (.int .i64 b.first)).setCell ⟨w.heap.size, 1, none⟩ (.slice A n c)).setCell ⟨w.heap.size, 2, none⟩ (.int .i64 b.rate)).setCell ⟨w.heap.size + 1, 0, none⟩ (.int .i64 p.kind)).setCell ⟨w.heap.size + 1, 1, none⟩ (.int .i64 p.age)).setCell ⟨w.heap.size + 1, 2, none⟩ (.int .i64 p.years)).setCell ⟨w.heap.size + 1, 3, none⟩ (.int .i64 p.sum)).setCell ⟨w.heap.size + 1, 4, none⟩ (.int .i64 p.load)).cell? ⟨Gb, 0, none⟩ = some (.int .i64 b.first) ∧ ((((((((W.setCell ⟨w.heap.size, 0, none⟩ (.int .i64 b.first)).setCell ⟨w.heap.size, 1, none⟩ (.slice A n c)).setCell ⟨w.heap.size, 2, none⟩ (.int .i64 b.rate)).setCell ⟨w.heap.size + 1, 0, none⟩ (.int .i64 p.kind)).setCell ⟨w.heap.size + 1, 1, none⟩ (.int .i64 p.age)).setCell ⟨w.heap.size + 1, 2, none⟩ (.int .i64 p.years)).setCell ⟨w.heap.size + 1, 3, none⟩ (.int .i64 p.sum)).setCell ⟨w.heap.size + 1, 4, none⟩ (.int .i64 p.load)).cell? ⟨Gb, 1, none⟩ = some (.slice A n c) ∧ ((((((((W.setCell ⟨w.heap.size, 0, none⟩ (.int .i64 b.first)).setCell ⟨w.heap.size, 1, none⟩ (.slice A n c)).setCell ⟨w.heap.size, 2, none⟩ (.int .i64 b.rate)).setCell ⟨w.heap.size + 1, 0, none⟩ (.int .i64 p.kind)).setCell ⟨w.heap.size + 1, 1, none⟩ (.int .i64 p.age)).setCell ⟨w.heap.size + 1, 2, none⟩ (.int .i64 p.years)).setCell ⟨w.heap.size + 1, 3, none⟩ (.int .i64 p.sum)).setCell ⟨w.heap.size + 1, 4, none⟩ (.int .i64 p.load)).cell? ⟨Gb, 2, none⟩ = some (.int .i64 b.rate) ∧ ((((((((W.setCell ⟨w.heap.size, 0, none⟩ (.int .i64 b.first)).setCell ⟨w.heap.size, 1, none⟩ (.slice A n c)).setCell ⟨w.heap.size, 2, none⟩ (.int .i64 b.rate)).setCell ⟨w.heap.size + 1, 0, none⟩ (.int .i64 p.kind)).setCell ⟨w.heap.size + 1, 1, none⟩ (.int .i64 p.age)).setCell ⟨w.heap.size + 1, 2, none⟩ (.int .i64 p.years)).setCell ⟨w.heap.size + 1, 3, none⟩ (.int .i64 p.sum)).setCell ⟨w.heap.size + 1, 4, none⟩ (.int .i64 p.load)).cell? ⟨Gp, 0, none⟩ = some (.int .i64 p.kind) ∧ ((((((((W.setCell ⟨w.heap.size, 0, none⟩ (.int .i64 b.first)).setCell ⟨w.heap.size, 1, none⟩ (.slice A n c)).setCell ⟨w.heap.size, 2, none⟩ (.int .i64 b.rate)).setCell ⟨w.heap.size + 1, 0, none⟩ (.int .i64 p.kind)).setCell ⟨w.heap.size + 1, 1, none⟩ (.int .i64 p.age)).setCell ⟨w.heap.size + 1, 2, none⟩ (.int .i64 p.years)).setCell ⟨w.heap.size + 1, 3, none⟩ (.int .i64 p.sum)).setCell ⟨w.heap.size + 1, 4, none⟩ (.int .i64 p.load)).cell? ⟨Gp, 1, none⟩ = some (.int .i64 p.age) ∧ ((((((((W.setCell ⟨w.heap.size, 0, none⟩ (.int .i64 b.first)).setCell ⟨w.heap.size, 1, none⟩ (.slice A n c)).setCell ⟨w.heap.size, 2, none⟩ (.int .i64 b.rate)).setCell ⟨w.heap.size + 1, 0, none⟩ (.int .i64 p.kind)).setCell ⟨w.heap.size + 1, 1, none⟩ (.int .i64 p.age)).setCell ⟨w.heap.size + 1, 2, none⟩ (.int .i64 p.years)).setCell ⟨w.heap.size + 1, 3, none⟩ (.int .i64 p.sum)).setCell ⟨w.heap.size + 1, 4, none⟩ (.int .i64 p.load)).cell? ⟨Gp, 2, none⟩ = some (.int .i64 p.years) ∧ ((((((((W.setCell ⟨w.heap.size, 0, none⟩ (.int .i64 b.first)).setCell ⟨w.heap.size, 1, none⟩ (.slice A n c)).setCell ⟨w.heap.size, 2, none⟩ (.int .i64 b.rate)).setCell ⟨w.heap.size + 1, 0, none⟩ (.int .i64 p.kind)).setCell ⟨w.heap.size + 1, 1, none⟩ (.int .i64 p.age)).setCell ⟨w.heap.size + 1, 2, none⟩ (.int .i64 p.years)).setCell ⟨w.heap.size + 1, 3, none⟩ (.int .i64 p.sum)).setCell ⟨w.heap.size + 1, 4, none⟩ (.int .i64 p.load)).cell? ⟨Gp, 3, none⟩ = some (.int .i64 p.sum) ∧ ((((((((W.setCell ⟨w.heap.size, 0, none⟩ (.int .i64 b.first)).setCell ⟨w.heap.size, 1, none⟩ (.slice A n c)).setCell ⟨w.heap.size, 2, none⟩ (.int .i64 b.rate)).setCell ⟨w.heap.size + 1, 0, none⟩ (.int .i64 p.kind)).setCell ⟨w.heap.size + 1, 1, none⟩ (.int .i64 p.age)).setCell ⟨w.heap.size + 1, 2, none⟩ (.int .i64 p.years)).setCell ⟨w.heap.size + 1, 3, none⟩ (.int .i64 p.sum)).setCell ⟨w.heap.size + 1, 4, none⟩ (.int .i64 p.load)).cell? ⟨Gp, 4, none⟩ = some (.int .i64 p.load) := by
  have e1 : Gb ≠ w.heap.size := by have := h.g0; have := h.g2; omega
  have e2 : Gp ≠ w.heap.size := by have := h.g0; have := h.g3; omega
  have e3 : Gb ≠ w.heap.size + 1 := by have := h.g0; have := h.g2; omega
  have e4 : Gp ≠ w.heap.size + 1 := by have := h.g0; have := h.g3; omega
  have h1 := ((((((((h.bb.far (p := ⟨w.heap.size, 0, none⟩) e1 (.int .i64 b.first)).far (p := ⟨w.heap.size, 1, none⟩) e1 (.slice A n c)).far (p := ⟨w.heap.size, 2, none⟩) e1 (.int .i64 b.rate)).far (p := ⟨w.heap.size + 1, 0, none⟩) e3 (.int .i64 p.kind)).far (p := ⟨w.heap.size + 1, 1, none⟩) e3 (.int .i64 p.age)).far (p := ⟨w.heap.size + 1, 2, none⟩) e3 (.int .i64 p.years)).far (p := ⟨w.heap.size + 1, 3, none⟩) e3 (.int .i64 p.sum)).far (p := ⟨w.heap.size + 1, 4, none⟩) e3 (.int .i64 p.load))
  have h2 := ((((((((h.pb.far (p := ⟨w.heap.size, 0, none⟩) e2 (.int .i64 b.first)).far (p := ⟨w.heap.size, 1, none⟩) e2 (.slice A n c)).far (p := ⟨w.heap.size, 2, none⟩) e2 (.int .i64 b.rate)).far (p := ⟨w.heap.size + 1, 0, none⟩) e4 (.int .i64 p.kind)).far (p := ⟨w.heap.size + 1, 1, none⟩) e4 (.int .i64 p.age)).far (p := ⟨w.heap.size + 1, 2, none⟩) e4 (.int .i64 p.years)).far (p := ⟨w.heap.size + 1, 3, none⟩) e4 (.int .i64 p.sum)).far (p := ⟨w.heap.size + 1, 4, none⟩) e4 (.int .i64 p.load))
  exact ⟨h1.cell 0, h1.cell 1, h1.cell 2, h2.cell 0, h2.cell 1, h2.cell 2, h2.cell 3, h2.cell 4⟩
theorem res_put {B b i n cap sz : Nat} {t : TypeId} {w : World} {A : Option Addr} {rows : List (List Value)} (h : Res B w t sz A n cap rows) (hb : b < B) (u : Value) : Res B (w.setCell ⟨b, i, none⟩ u) t sz A n cap rows :=
  h.keep fun g hg => Below.heap_setCell _ _ _ _ (by have := (h.lt hg).1; show g ≠ b; omega)
theorem PV.fin (h : PV K g w W B Gb Gp b A n c p) : Blk ((((((((W.setCell ⟨w.heap.size, 0, none⟩ (.int .i64 b.first)).setCell ⟨w.heap.size, 1, none⟩ (.slice A n c)).setCell ⟨w.heap.size, 2, none⟩ (.int .i64 b.rate)).setCell ⟨w.heap.size + 1, 0, none⟩ (.int .i64 p.kind)).setCell ⟨w.heap.size + 1, 1, none⟩ (.int .i64 p.age)).setCell ⟨w.heap.size + 1, 2, none⟩ (.int .i64 p.years)).setCell ⟨w.heap.size + 1, 3, none⟩ (.int .i64 p.sum)).setCell ⟨w.heap.size + 1, 4, none⟩ (.int .i64 p.load)) w.heap.size 40 #[.int .i64 b.first, .slice A n c, .int .i64 b.rate] ∧ Blk ((((((((W.setCell ⟨w.heap.size, 0, none⟩ (.int .i64 b.first)).setCell ⟨w.heap.size, 1, none⟩ (.slice A n c)).setCell ⟨w.heap.size, 2, none⟩ (.int .i64 b.rate)).setCell ⟨w.heap.size + 1, 0, none⟩ (.int .i64 p.kind)).setCell ⟨w.heap.size + 1, 1, none⟩ (.int .i64 p.age)).setCell ⟨w.heap.size + 1, 2, none⟩ (.int .i64 p.years)).setCell ⟨w.heap.size + 1, 3, none⟩ (.int .i64 p.sum)).setCell ⟨w.heap.size + 1, 4, none⟩ (.int .i64 p.load)) (w.heap.size + 1) 42 #[.int .i64 p.kind, .int .i64 p.age, .int .i64 p.years, .int .i64 p.sum, .int .i64 p.load] ∧ Res w.heap.size ((((((((W.setCell ⟨w.heap.size, 0, none⟩ (.int .i64 b.first)).setCell ⟨w.heap.size, 1, none⟩ (.slice A n c)).setCell ⟨w.heap.size, 2, none⟩ (.int .i64 b.rate)).setCell ⟨w.heap.size + 1, 0, none⟩ (.int .i64 p.kind)).setCell ⟨w.heap.size + 1, 1, none⟩ (.int .i64 p.age)).setCell ⟨w.heap.size + 1, 2, none⟩ (.int .i64 p.years)).setCell ⟨w.heap.size + 1, 3, none⟩ (.int .i64 p.sum)).setCell ⟨w.heap.size + 1, 4, none⟩ (.int .i64 p.load)) 2 1 A n c (intRows b.lives) ∧ Below w.heap.size w ((((((((W.setCell ⟨w.heap.size, 0, none⟩ (.int .i64 b.first)).setCell ⟨w.heap.size, 1, none⟩ (.slice A n c)).setCell ⟨w.heap.size, 2, none⟩ (.int .i64 b.rate)).setCell ⟨w.heap.size + 1, 0, none⟩ (.int .i64 p.kind)).setCell ⟨w.heap.size + 1, 1, none⟩ (.int .i64 p.age)).setCell ⟨w.heap.size + 1, 2, none⟩ (.int .i64 p.years)).setCell ⟨w.heap.size + 1, 3, none⟩ (.int .i64 p.sum)).setCell ⟨w.heap.size + 1, 4, none⟩ (.int .i64 p.load)) := by
  have q0 := h.g0; have q1 := h.g1
  have e : w.heap.size ≠ w.heap.size + 1 := by omega
  have e' : w.heap.size + 1 ≠ w.heap.size := by omega
  refine ⟨?_, ?_, ?_, ?_⟩
  · exact ((((((((h.za.set_ 0 (.int .i64 b.first)).set_ 1 (.slice A n c)).set_ 2 (.int .i64 b.rate)).far (p := ⟨w.heap.size + 1, 0, none⟩) e (.int .i64 p.kind)).far (p := ⟨w.heap.size + 1, 1, none⟩) e (.int .i64 p.age)).far (p := ⟨w.heap.size + 1, 2, none⟩) e (.int .i64 p.years)).far (p := ⟨w.heap.size + 1, 3, none⟩) e (.int .i64 p.sum)).far (p := ⟨w.heap.size + 1, 4, none⟩) e (.int .i64 p.load))
  · exact ((((((((h.zb.far (p := ⟨w.heap.size, 0, none⟩) e' (.int .i64 b.first)).far (p := ⟨w.heap.size, 1, none⟩) e' (.slice A n c)).far (p := ⟨w.heap.size, 2, none⟩) e' (.int .i64 b.rate)).set_ 0 (.int .i64 p.kind)).set_ 1 (.int .i64 p.age)).set_ 2 (.int .i64 p.years)).set_ 3 (.int .i64 p.sum)).set_ 4 (.int .i64 p.load))
  · exact (res_put (res_put (res_put (res_put (res_put (res_put (res_put (res_put h.li (by omega) _) (by omega) _) (by omega) _) (by omega) _) (by omega) _) (by omega) _) (by omega) _) (by omega) _).more (by omega)
  · exact ((((((((h.out.setCell (p := ⟨w.heap.size, 0, none⟩) (Nat.le_refl _) (.int .i64 b.first)).setCell (p := ⟨w.heap.size, 1, none⟩) (Nat.le_refl _) (.slice A n c)).setCell (p := ⟨w.heap.size, 2, none⟩) (Nat.le_refl _) (.int .i64 b.rate)).setCell (p := ⟨w.heap.size + 1, 0, none⟩) (Nat.le_succ _) (.int .i64 p.kind)).setCell (p := ⟨w.heap.size + 1, 1, none⟩) (Nat.le_succ _) (.int .i64 p.age)).setCell (p := ⟨w.heap.size + 1, 2, none⟩) (Nat.le_succ _) (.int .i64 p.years)).setCell (p := ⟨w.heap.size + 1, 3, none⟩) (Nat.le_succ _) (.int .i64 p.sum)).setCell (p := ⟨w.heap.size + 1, 4, none⟩) (Nat.le_succ _) (.int .i64 p.load))
end
def SumD (w w' : World) (e : Ending) : Prop := ∃ (b : Bas) (A : Option Addr) (n c : Nat) (p : Policy) (prem : Int), e = .returned (.tuple #[.agg #[.int .i64 b.first, .slice A n c, .int .i64 b.rate], .agg p.row.toArray, .int .i64 prem]) ∧ Res w.heap.size w' 2 1 A n c (intRows b.lives) ∧ (1 ≤ n ∧ n ≤ 30) ∧ (∀ x ∈ b.lives, 0 ≤ x ∧ x ≤ 1000001) ∧ (-1 ≤ b.first ∧ b.first ≤ 101) ∧ (-1 ≤ b.rate ∧ b.rate ≤ 201) ∧ p.fits ∧ (0 ≤ prem ∧ prem ≤ 100000001) ∧ Below w.heap.size w w'
set_option maxRecDepth 100000 in
set_option maxHeartbeats 8000000 in
theorem spec_DrawSumForPremium_any (K : Code) (hK : K.Ok) (w : World) (hX : Rd w w.heap.size K.A 1 (byteRows K.bs)) :
    Calls Tryz.prog 18 #[.slice K.A K.n K.c] w fun e w' => SumD w w' e := by
  obtain ⟨hbw, hZA, hZB, hz⟩ := two_boxes w [.int .i64 0, .slice none 0 0, .int .i64 0] [.int .i64 0, .int .i64 0, .int .i64 0, .int .i64 0, .int .i64 0] 40 42
  have HZA := Lib.hid hZA; have HZB := Lib.hid hZB; have HX := Lib.hid (hX.past hbw)
  clear hZA hZB hX
  go_enter Tryz.func18, Tryz.ntmps18
  go_upto_region 1 with (fail)
  generalize (w.alloc _).alloc _ = W at hbw HZA HZB HX hz ⊢
  go_wp2_with fail
  refine (spec_l01From_any K hK _ HX.out).mono ?_
  rintro e w1 ⟨g, rfl, hg, hb, hS⟩
  have HZA1 := Lib.hid (HZA.out.below' hb); have HZB1 := Lib.hid (HZB.out.below' hb)
  have HB1 := Lib.hid (hbw.trans (hb.mono hbw.size))
  have hgw : w.heap.size + 1 < g := by omega
  have hgl : g < w1.heap.size := hS.lt
  have hT0 := Nx.refl hS
  clear HZA HZB HX hb hS hg hz
  go_wp2_with fail
  refine (spec_l10Draw_any K hK g _ _ hT0).mono ?_
  rintro e w2 ⟨b, A, n, c, p, rfl, hE, hn1, hl, hf1, hr1, hp, hT1⟩
  unfold Policy.row
  have hfit := hp.fits
  have HLV := Lib.hid hl
  clear hT0 hp hl
  have hgl2 : g < w2.heap.size := hT1.src.lt
  obtain ⟨hb2, hBB, hPB, hz2⟩ := two_boxes w2 [.int .i64 b.first, .slice A n c, .int .i64 b.rate] [.int .i64 p.kind, .int .i64 p.age, .int .i64 p.years, .int .i64 p.sum, .int .i64 p.load] 40 42
  have hNA := (hT1.alloc (.cells #[.int .i64 b.first, .slice A n c, .int .i64 b.rate] 40)).alloc (.cells #[.int .i64 p.kind, .int .i64 p.age, .int .i64 p.years, .int .i64 p.sum, .int .i64 p.load] 42)
  have HE7 : Hid (PV K g w ((w2.alloc (.cells #[.int .i64 b.first, .slice A n c, .int .i64 b.rate] 40)).alloc (.cells #[.int .i64 p.kind, .int .i64 p.age, .int .i64 p.years, .int .i64 p.sum, .int .i64 p.load] 42)) w1.heap.size w2.heap.size (w2.heap.size + 1) b A n c p) := Lib.hid {
    src := hNA.src, bb := hBB, pb := hPB
    za := HZA1.out.nx hNA (by omega), zb := HZB1.out.nx hNA (by omega)
    li := hE.past hb2
    out := HB1.out.trans (hNA.out (by omega)), g0 := hgw, g1 := hgl, g2 := hgl2, g3 := Nat.lt_succ_of_lt hgl2 }
  clear HZA1 HZB1 HB1 hT1 hE hNA hBB hPB hb2 hz2
  go_upto_region 3 with (fail)
  generalize (w2.alloc _).alloc _ = W7 at HE7 ⊢
  obtain ⟨Gp, hGp⟩ : ∃ Gp, w2.heap.size + 1 = Gp := ⟨_, rfl⟩
  rw [hGp] at HE7 ⊢
  clear hGp
  generalize w2.heap.size = Gb at HE7 hgl2 ⊢
  have hT := HE7.out.nx_
  go_wp2_with (go_at_call 32; refine (spec_l01Next_any K hK g _ _ _ (Nx.refl (Nx.src (by first | exact hT | exact hT.alloc _ | exact (hT.alloc _).alloc _ | exact hT.drew)))).mono ?_; rintro e w3 ⟨x, rfl, ⟨hx0, hx1⟩, hN⟩; have hT := Nx.trans (by first | exact hT | exact hT.alloc _ | exact (hT.alloc _).alloc _ | exact hT.drew) hN)
  · have HE := Lib.hid (HE7.out.nxx hT)
    clear hT hN HE7 hx0 hx1
    generalize w3 = V at HE ⊢
    have hgV := HE.out.src.lt
    have HS := Lib.hid (fun w' (h : PV K g w w' w1.heap.size Gb Gp b A n c p) => (show w'.cell? ⟨Gb, 0, none⟩ = some (.int .i64 b.first) ∧ w'.cell? ⟨Gb, 1, none⟩ = some (.slice A n c) ∧ w'.cell? ⟨Gb, 2, none⟩ = some (.int .i64 b.rate) ∧ w'.cell? ⟨Gp, 0, none⟩ = some (.int .i64 p.kind) ∧ w'.cell? ⟨Gp, 1, none⟩ = some (.int .i64 p.age) ∧ w'.cell? ⟨Gp, 2, none⟩ = some (.int .i64 p.years) ∧ w'.cell? ⟨Gp, 3, none⟩ = some (.int .i64 p.sum) ∧ w'.cell? ⟨Gp, 4, none⟩ = some (.int .i64 p.load) from h.cells))
    have HS3 := Lib.hid (fun w' (h : PV K g w w' w1.heap.size Gb Gp b A n c p) => (show (((w'.setCell ⟨w.heap.size, 0, none⟩ (.int .i64 b.first)).setCell ⟨w.heap.size, 1, none⟩ (.slice A n c)).setCell ⟨w.heap.size, 2, none⟩ (.int .i64 b.rate)).cell? ⟨Gb, 0, none⟩ = some (.int .i64 b.first) ∧ (((w'.setCell ⟨w.heap.size, 0, none⟩ (.int .i64 b.first)).setCell ⟨w.heap.size, 1, none⟩ (.slice A n c)).setCell ⟨w.heap.size, 2, none⟩ (.int .i64 b.rate)).cell? ⟨Gb, 1, none⟩ = some (.slice A n c) ∧ (((w'.setCell ⟨w.heap.size, 0, none⟩ (.int .i64 b.first)).setCell ⟨w.heap.size, 1, none⟩ (.slice A n c)).setCell ⟨w.heap.size, 2, none⟩ (.int .i64 b.rate)).cell? ⟨Gb, 2, none⟩ = some (.int .i64 b.rate) ∧ (((w'.setCell ⟨w.heap.size, 0, none⟩ (.int .i64 b.first)).setCell ⟨w.heap.size, 1, none⟩ (.slice A n c)).setCell ⟨w.heap.size, 2, none⟩ (.int .i64 b.rate)).cell? ⟨Gp, 0, none⟩ = some (.int .i64 p.kind) ∧ (((w'.setCell ⟨w.heap.size, 0, none⟩ (.int .i64 b.first)).setCell ⟨w.heap.size, 1, none⟩ (.slice A n c)).setCell ⟨w.heap.size, 2, none⟩ (.int .i64 b.rate)).cell? ⟨Gp, 1, none⟩ = some (.int .i64 p.age) ∧ (((w'.setCell ⟨w.heap.size, 0, none⟩ (.int .i64 b.first)).setCell ⟨w.heap.size, 1, none⟩ (.slice A n c)).setCell ⟨w.heap.size, 2, none⟩ (.int .i64 b.rate)).cell? ⟨Gp, 2, none⟩ = some (.int .i64 p.years) ∧ (((w'.setCell ⟨w.heap.size, 0, none⟩ (.int .i64 b.first)).setCell ⟨w.heap.size, 1, none⟩ (.slice A n c)).setCell ⟨w.heap.size, 2, none⟩ (.int .i64 b.rate)).cell? ⟨Gp, 3, none⟩ = some (.int .i64 p.sum) ∧ (((w'.setCell ⟨w.heap.size, 0, none⟩ (.int .i64 b.first)).setCell ⟨w.heap.size, 1, none⟩ (.slice A n c)).setCell ⟨w.heap.size, 2, none⟩ (.int .i64 b.rate)).cell? ⟨Gp, 4, none⟩ = some (.int .i64 p.load) from h.three))
    have HS8 := Lib.hid (fun w' (h : PV K g w w' w1.heap.size Gb Gp b A n c p) => (show ((((((((w'.setCell ⟨w.heap.size, 0, none⟩ (.int .i64 b.first)).setCell ⟨w.heap.size, 1, none⟩ (.slice A n c)).setCell ⟨w.heap.size, 2, none⟩ (.int .i64 b.rate)).setCell ⟨w.heap.size + 1, 0, none⟩ (.int .i64 p.kind)).setCell ⟨w.heap.size + 1, 1, none⟩ (.int .i64 p.age)).setCell ⟨w.heap.size + 1, 2, none⟩ (.int .i64 p.years)).setCell ⟨w.heap.size + 1, 3, none⟩ (.int .i64 p.sum)).setCell ⟨w.heap.size + 1, 4, none⟩ (.int .i64 p.load)).cell? ⟨Gb, 0, none⟩ = some (.int .i64 b.first) ∧ ((((((((w'.setCell ⟨w.heap.size, 0, none⟩ (.int .i64 b.first)).setCell ⟨w.heap.size, 1, none⟩ (.slice A n c)).setCell ⟨w.heap.size, 2, none⟩ (.int .i64 b.rate)).setCell ⟨w.heap.size + 1, 0, none⟩ (.int .i64 p.kind)).setCell ⟨w.heap.size + 1, 1, none⟩ (.int .i64 p.age)).setCell ⟨w.heap.size + 1, 2, none⟩ (.int .i64 p.years)).setCell ⟨w.heap.size + 1, 3, none⟩ (.int .i64 p.sum)).setCell ⟨w.heap.size + 1, 4, none⟩ (.int .i64 p.load)).cell? ⟨Gb, 1, none⟩ = some (.slice A n c) ∧ ((((((((w'.setCell ⟨w.heap.size, 0, none⟩ (.int .i64 b.first)).setCell ⟨w.heap.size, 1, none⟩ (.slice A n c)).setCell ⟨w.heap.size, 2, none⟩ (.int .i64 b.rate)).setCell ⟨w.heap.size + 1, 0, none⟩ (.int .i64 p.kind)).setCell ⟨w.heap.size + 1, 1, none⟩ (.int .i64 p.age)).setCell ⟨w.heap.size + 1, 2, none⟩ (.int .i64 p.years)).setCell ⟨w.heap.size + 1, 3, none⟩ (.int .i64 p.sum)).setCell ⟨w.heap.size + 1, 4, none⟩ (.int .i64 p.load)).cell? ⟨Gb, 2, none⟩ = some (.int .i64 b.rate) ∧ ((((((((w'.setCell ⟨w.heap.size, 0, none⟩ (.int .i64 b.first)).setCell ⟨w.heap.size, 1, none⟩ (.slice A n c)).setCell ⟨w.heap.size, 2, none⟩ (.int .i64 b.rate)).setCell ⟨w.heap.size + 1, 0, none⟩ (.int .i64 p.kind)).setCell ⟨w.heap.size + 1, 1, none⟩ (.int .i64 p.age)).setCell ⟨w.heap.size + 1, 2, none⟩ (.int .i64 p.years)).setCell ⟨w.heap.size + 1, 3, none⟩ (.int .i64 p.sum)).setCell ⟨w.heap.size + 1, 4, none⟩ (.int .i64 p.load)).cell? ⟨Gp, 0, none⟩ = some (.int .i64 p.kind) ∧ ((((((((w'.setCell ⟨w.heap.size, 0, none⟩ (.int .i64 b.first)).setCell ⟨w.heap.size, 1, none⟩ (.slice A n c)).setCell ⟨w.heap.size, 2, none⟩ (.int .i64 b.rate)).setCell ⟨w.heap.size + 1, 0, none⟩ (.int .i64 p.kind)).setCell ⟨w.heap.size + 1, 1, none⟩ (.int .i64 p.age)).setCell ⟨w.heap.size + 1, 2, none⟩ (.int .i64 p.years)).setCell ⟨w.heap.size + 1, 3, none⟩ (.int .i64 p.sum)).setCell ⟨w.heap.size + 1, 4, none⟩ (.int .i64 p.load)).cell? ⟨Gp, 1, none⟩ = some (.int .i64 p.age) ∧ ((((((((w'.setCell ⟨w.heap.size, 0, none⟩ (.int .i64 b.first)).setCell ⟨w.heap.size, 1, none⟩ (.slice A n c)).setCell ⟨w.heap.size, 2, none⟩ (.int .i64 b.rate)).setCell ⟨w.heap.size + 1, 0, none⟩ (.int .i64 p.kind)).setCell ⟨w.heap.size + 1, 1, none⟩ (.int .i64 p.age)).setCell ⟨w.heap.size + 1, 2, none⟩ (.int .i64 p.years)).setCell ⟨w.heap.size + 1, 3, none⟩ (.int .i64 p.sum)).setCell ⟨w.heap.size + 1, 4, none⟩ (.int .i64 p.load)).cell? ⟨Gp, 2, none⟩ = some (.int .i64 p.years) ∧ ((((((((w'.setCell ⟨w.heap.size, 0, none⟩ (.int .i64 b.first)).setCell ⟨w.heap.size, 1, none⟩ (.slice A n c)).setCell ⟨w.heap.size, 2, none⟩ (.int .i64 b.rate)).setCell ⟨w.heap.size + 1, 0, none⟩ (.int .i64 p.kind)).setCell ⟨w.heap.size + 1, 1, none⟩ (.int .i64 p.age)).setCell ⟨w.heap.size + 1, 2, none⟩ (.int .i64 p.years)).setCell ⟨w.heap.size + 1, 3, none⟩ (.int .i64 p.sum)).setCell ⟨w.heap.size + 1, 4, none⟩ (.int .i64 p.load)).cell? ⟨Gp, 3, none⟩ = some (.int .i64 p.sum) ∧ ((((((((w'.setCell ⟨w.heap.size, 0, none⟩ (.int .i64 b.first)).setCell ⟨w.heap.size, 1, none⟩ (.slice A n c)).setCell ⟨w.heap.size, 2, none⟩ (.int .i64 b.rate)).setCell ⟨w.heap.size + 1, 0, none⟩ (.int .i64 p.kind)).setCell ⟨w.heap.size + 1, 1, none⟩ (.int .i64 p.age)).setCell ⟨w.heap.size + 1, 2, none⟩ (.int .i64 p.years)).setCell ⟨w.heap.size + 1, 3, none⟩ (.int .i64 p.sum)).setCell ⟨w.heap.size + 1, 4, none⟩ (.int .i64 p.load)).cell? ⟨Gp, 4, none⟩ = some (.int .i64 p.load) from h.eight))
    have E1 := Lib.hid (HE.out.alloc (.cells #[.int .i64 0, .int .i64 1, .int .i64 100000000, .int .i64 100000001] 2))
    have B1 := Lib.hid (Blk.new V 2 #[.int .i64 0, .int .i64 1, .int .i64 100000000, .int .i64 100000001])
    go_region_held3 (fun w' => w'.cell? ⟨Gb, 0, none⟩ = some (.int .i64 b.first) ∧ w'.cell? ⟨Gb, 1, none⟩ = some (.slice A n c) ∧ w'.cell? ⟨Gb, 2, none⟩ = some (.int .i64 b.rate) ∧ w'.cell? ⟨Gp, 0, none⟩ = some (.int .i64 p.kind) ∧ w'.cell? ⟨Gp, 1, none⟩ = some (.int .i64 p.age) ∧ w'.cell? ⟨Gp, 2, none⟩ = some (.int .i64 p.years) ∧ w'.cell? ⟨Gp, 3, none⟩ = some (.int .i64 p.sum) ∧ w'.cell? ⟨Gp, 4, none⟩ = some (.int .i64 p.load)) (first | with_reducible exact HS.out _ HE8.out | with_reducible exact HS3.out _ HE8.out | with_reducible exact HS8.out _ HE8.out | with_reducible exact HS.out _ HE.out.drew | with_reducible exact HS.out _ HE.out | with_reducible exact HS.out _ E1.out | with_reducible exact HS.out _ E1.out.drew | with_reducible exact HS.out _ HE8.out.drew) (first | (go_at_call 33; first | (with_reducible refine (spec_l01Pick_any K hK g _ _ [.int .i64 0, .int .i64 1, .int .i64 100000000, .int .i64 100000001] 4 _ E1.out.nx_ B1.out hgV rfl (by decide) (by decide) rfl).mono ?_; rintro e w8 ⟨x8, rfl, hx8, hT8⟩; simp only [OneOf, Value.int.injEq, true_and, or_false] at hx8; have HE8 := Lib.hid (E1.out.nxx hT8); have c0 := HE8.out.za.cell 0; have z0 := HE8.out.za.frozen 0; have c1 := HE8.out.za.cell 1; have z1 := HE8.out.za.frozen 1; have c2 := HE8.out.za.cell 2; have z2 := HE8.out.za.frozen 2; have d0 := HE8.out.zb.cell 0; have y0 := HE8.out.zb.frozen 0; have d1 := HE8.out.zb.cell 1; have y1 := HE8.out.zb.frozen 1; have d2 := HE8.out.zb.cell 2; have y2 := HE8.out.zb.frozen 2; have d3 := HE8.out.zb.cell 3; have y3 := HE8.out.zb.frozen 3; have d4 := HE8.out.zb.cell 4; have y4 := HE8.out.zb.frozen 4) | (with_reducible refine (spec_l01Pick_any K hK g _ _ [.int .i64 0, .int .i64 1, .int .i64 100000000, .int .i64 100000001] 4 _ E1.out.drew.nx_ B1.out.drew hgV rfl (by decide) (by decide) rfl).mono ?_; rintro e w8 ⟨x8, rfl, hx8, hT8⟩; simp only [OneOf, Value.int.injEq, true_and, or_false] at hx8; have HE8 := Lib.hid (E1.out.drew.nxx hT8); have c0 := HE8.out.za.cell 0; have z0 := HE8.out.za.frozen 0; have c1 := HE8.out.za.cell 1; have z1 := HE8.out.za.frozen 1; have c2 := HE8.out.za.cell 2; have z2 := HE8.out.za.frozen 2; have d0 := HE8.out.zb.cell 0; have y0 := HE8.out.zb.frozen 0; have d1 := HE8.out.zb.cell 1; have y1 := HE8.out.zb.frozen 1; have d2 := HE8.out.zb.cell 2; have y2 := HE8.out.zb.frozen 2; have d3 := HE8.out.zb.cell 3; have y3 := HE8.out.zb.frozen 3; have d4 := HE8.out.zb.cell 4; have y4 := HE8.out.zb.frozen 4)))
    all_goals
      obtain ⟨fA, fB, fT, fO⟩ := HE8.out.fin
      clear c0 z0 c1 z1 c2 z2 d0 y0 d1 y1 d2 y2 d3 y3 d4 y4 HS HS3 HS8
      generalize ((((((((w8.setCell ⟨w.heap.size, 0, none⟩ (.int .i64 b.first)).setCell ⟨w.heap.size, 1, none⟩ (.slice A n c)).setCell ⟨w.heap.size, 2, none⟩ (.int .i64 b.rate)).setCell ⟨w.heap.size + 1, 0, none⟩ (.int .i64 p.kind)).setCell ⟨w.heap.size + 1, 1, none⟩ (.int .i64 p.age)).setCell ⟨w.heap.size + 1, 2, none⟩ (.int .i64 p.years)).setCell ⟨w.heap.size + 1, 3, none⟩ (.int .i64 p.sum)).setCell ⟨w.heap.size + 1, 4, none⟩ (.int .i64 p.load)) = W9 at fA fB fT fO ⊢
      have r0 : W9.cell? ⟨w.heap.size, 0, none⟩ = some (.int .i64 b.first) := fA.cell 0
      have r1 : W9.cell? ⟨w.heap.size, 1, none⟩ = some (.slice A n c) := fA.cell 1
      have r2 : W9.cell? ⟨w.heap.size, 2, none⟩ = some (.int .i64 b.rate) := fA.cell 2
      have s0 : W9.cell? ⟨w.heap.size + 1, 0, none⟩ = some (.int .i64 p.kind) := fB.cell 0
      have s1 : W9.cell? ⟨w.heap.size + 1, 1, none⟩ = some (.int .i64 p.age) := fB.cell 1
      have s2 : W9.cell? ⟨w.heap.size + 1, 2, none⟩ = some (.int .i64 p.years) := fB.cell 2
      have s3 : W9.cell? ⟨w.heap.size + 1, 3, none⟩ = some (.int .i64 p.sum) := fB.cell 3
      have s4 : W9.cell? ⟨w.heap.size + 1, 4, none⟩ = some (.int .i64 p.load) := fB.cell 4
      have FT := Lib.hid fT; have FO := Lib.hid fO
      clear fA fB fT fO
      go_wp2
      refine bodyPost_ret (v := .tuple #[.agg #[.int .i64 b.first, .slice A n c, .int .i64 b.rate], .agg #[.int .i64 p.kind, .int .i64 p.age, .int .i64 p.years, .int .i64 p.sum, .int .i64 p.load], .int .i64 (x8)]) (by simp [results, Tryz.results18, go_sem, r0, r1, r2, s0, s1, s2, s3, s4]) rfl ?_
      exact ⟨b, A, n, c, p, x8, rfl, FT.out, hn1, HLV.out, hf1, hr1, hfit, by omega, FO.out⟩
  · have HE := Lib.hid (HE7.out.nxx hT)
    clear hT hN HE7 hx0 hx1
    generalize w3 = V at HE ⊢
    have hgV := HE.out.src.lt
    have HS := Lib.hid (fun w' (h : PV K g w w' w1.heap.size Gb Gp b A n c p) => (show w'.cell? ⟨Gb, 0, none⟩ = some (.int .i64 b.first) ∧ w'.cell? ⟨Gb, 1, none⟩ = some (.slice A n c) ∧ w'.cell? ⟨Gb, 2, none⟩ = some (.int .i64 b.rate) ∧ w'.cell? ⟨Gp, 0, none⟩ = some (.int .i64 p.kind) ∧ w'.cell? ⟨Gp, 1, none⟩ = some (.int .i64 p.age) ∧ w'.cell? ⟨Gp, 2, none⟩ = some (.int .i64 p.years) ∧ w'.cell? ⟨Gp, 3, none⟩ = some (.int .i64 p.sum) ∧ w'.cell? ⟨Gp, 4, none⟩ = some (.int .i64 p.load) from h.cells))
    have HS3 := Lib.hid (fun w' (h : PV K g w w' w1.heap.size Gb Gp b A n c p) => (show (((w'.setCell ⟨w.heap.size, 0, none⟩ (.int .i64 b.first)).setCell ⟨w.heap.size, 1, none⟩ (.slice A n c)).setCell ⟨w.heap.size, 2, none⟩ (.int .i64 b.rate)).cell? ⟨Gb, 0, none⟩ = some (.int .i64 b.first) ∧ (((w'.setCell ⟨w.heap.size, 0, none⟩ (.int .i64 b.first)).setCell ⟨w.heap.size, 1, none⟩ (.slice A n c)).setCell ⟨w.heap.size, 2, none⟩ (.int .i64 b.rate)).cell? ⟨Gb, 1, none⟩ = some (.slice A n c) ∧ (((w'.setCell ⟨w.heap.size, 0, none⟩ (.int .i64 b.first)).setCell ⟨w.heap.size, 1, none⟩ (.slice A n c)).setCell ⟨w.heap.size, 2, none⟩ (.int .i64 b.rate)).cell? ⟨Gb, 2, none⟩ = some (.int .i64 b.rate) ∧ (((w'.setCell ⟨w.heap.size, 0, none⟩ (.int .i64 b.first)).setCell ⟨w.heap.size, 1, none⟩ (.slice A n c)).setCell ⟨w.heap.size, 2, none⟩ (.int .i64 b.rate)).cell? ⟨Gp, 0, none⟩ = some (.int .i64 p.kind) ∧ (((w'.setCell ⟨w.heap.size, 0, none⟩ (.int .i64 b.first)).setCell ⟨w.heap.size, 1, none⟩ (.slice A n c)).setCell ⟨w.heap.size, 2, none⟩ (.int .i64 b.rate)).cell? ⟨Gp, 1, none⟩ = some (.int .i64 p.age) ∧ (((w'.setCell ⟨w.heap.size, 0, none⟩ (.int .i64 b.first)).setCell ⟨w.heap.size, 1, none⟩ (.slice A n c)).setCell ⟨w.heap.size, 2, none⟩ (.int .i64 b.rate)).cell? ⟨Gp, 2, none⟩ = some (.int .i64 p.years) ∧ (((w'.setCell ⟨w.heap.size, 0, none⟩ (.int .i64 b.first)).setCell ⟨w.heap.size, 1, none⟩ (.slice A n c)).setCell ⟨w.heap.size, 2, none⟩ (.int .i64 b.rate)).cell? ⟨Gp, 3, none⟩ = some (.int .i64 p.sum) ∧ (((w'.setCell ⟨w.heap.size, 0, none⟩ (.int .i64 b.first)).setCell ⟨w.heap.size, 1, none⟩ (.slice A n c)).setCell ⟨w.heap.size, 2, none⟩ (.int .i64 b.rate)).cell? ⟨Gp, 4, none⟩ = some (.int .i64 p.load) from h.three))
    have HS8 := Lib.hid (fun w' (h : PV K g w w' w1.heap.size Gb Gp b A n c p) => (show ((((((((w'.setCell ⟨w.heap.size, 0, none⟩ (.int .i64 b.first)).setCell ⟨w.heap.size, 1, none⟩ (.slice A n c)).setCell ⟨w.heap.size, 2, none⟩ (.int .i64 b.rate)).setCell ⟨w.heap.size + 1, 0, none⟩ (.int .i64 p.kind)).setCell ⟨w.heap.size + 1, 1, none⟩ (.int .i64 p.age)).setCell ⟨w.heap.size + 1, 2, none⟩ (.int .i64 p.years)).setCell ⟨w.heap.size + 1, 3, none⟩ (.int .i64 p.sum)).setCell ⟨w.heap.size + 1, 4, none⟩ (.int .i64 p.load)).cell? ⟨Gb, 0, none⟩ = some (.int .i64 b.first) ∧ ((((((((w'.setCell ⟨w.heap.size, 0, none⟩ (.int .i64 b.first)).setCell ⟨w.heap.size, 1, none⟩ (.slice A n c)).setCell ⟨w.heap.size, 2, none⟩ (.int .i64 b.rate)).setCell ⟨w.heap.size + 1, 0, none⟩ (.int .i64 p.kind)).setCell ⟨w.heap.size + 1, 1, none⟩ (.int .i64 p.age)).setCell ⟨w.heap.size + 1, 2, none⟩ (.int .i64 p.years)).setCell ⟨w.heap.size + 1, 3, none⟩ (.int .i64 p.sum)).setCell ⟨w.heap.size + 1, 4, none⟩ (.int .i64 p.load)).cell? ⟨Gb, 1, none⟩ = some (.slice A n c) ∧ ((((((((w'.setCell ⟨w.heap.size, 0, none⟩ (.int .i64 b.first)).setCell ⟨w.heap.size, 1, none⟩ (.slice A n c)).setCell ⟨w.heap.size, 2, none⟩ (.int .i64 b.rate)).setCell ⟨w.heap.size + 1, 0, none⟩ (.int .i64 p.kind)).setCell ⟨w.heap.size + 1, 1, none⟩ (.int .i64 p.age)).setCell ⟨w.heap.size + 1, 2, none⟩ (.int .i64 p.years)).setCell ⟨w.heap.size + 1, 3, none⟩ (.int .i64 p.sum)).setCell ⟨w.heap.size + 1, 4, none⟩ (.int .i64 p.load)).cell? ⟨Gb, 2, none⟩ = some (.int .i64 b.rate) ∧ ((((((((w'.setCell ⟨w.heap.size, 0, none⟩ (.int .i64 b.first)).setCell ⟨w.heap.size, 1, none⟩ (.slice A n c)).setCell ⟨w.heap.size, 2, none⟩ (.int .i64 b.rate)).setCell ⟨w.heap.size + 1, 0, none⟩ (.int .i64 p.kind)).setCell ⟨w.heap.size + 1, 1, none⟩ (.int .i64 p.age)).setCell ⟨w.heap.size + 1, 2, none⟩ (.int .i64 p.years)).setCell ⟨w.heap.size + 1, 3, none⟩ (.int .i64 p.sum)).setCell ⟨w.heap.size + 1, 4, none⟩ (.int .i64 p.load)).cell? ⟨Gp, 0, none⟩ = some (.int .i64 p.kind) ∧ ((((((((w'.setCell ⟨w.heap.size, 0, none⟩ (.int .i64 b.first)).setCell ⟨w.heap.size, 1, none⟩ (.slice A n c)).setCell ⟨w.heap.size, 2, none⟩ (.int .i64 b.rate)).setCell ⟨w.heap.size + 1, 0, none⟩ (.int .i64 p.kind)).setCell ⟨w.heap.size + 1, 1, none⟩ (.int .i64 p.age)).setCell ⟨w.heap.size + 1, 2, none⟩ (.int .i64 p.years)).setCell ⟨w.heap.size + 1, 3, none⟩ (.int .i64 p.sum)).setCell ⟨w.heap.size + 1, 4, none⟩ (.int .i64 p.load)).cell? ⟨Gp, 1, none⟩ = some (.int .i64 p.age) ∧ ((((((((w'.setCell ⟨w.heap.size, 0, none⟩ (.int .i64 b.first)).setCell ⟨w.heap.size, 1, none⟩ (.slice A n c)).setCell ⟨w.heap.size, 2, none⟩ (.int .i64 b.rate)).setCell ⟨w.heap.size + 1, 0, none⟩ (.int .i64 p.kind)).setCell ⟨w.heap.size + 1, 1, none⟩ (.int .i64 p.age)).setCell ⟨w.heap.size + 1, 2, none⟩ (.int .i64 p.years)).setCell ⟨w.heap.size + 1, 3, none⟩ (.int .i64 p.sum)).setCell ⟨w.heap.size + 1, 4, none⟩ (.int .i64 p.load)).cell? ⟨Gp, 2, none⟩ = some (.int .i64 p.years) ∧ ((((((((w'.setCell ⟨w.heap.size, 0, none⟩ (.int .i64 b.first)).setCell ⟨w.heap.size, 1, none⟩ (.slice A n c)).setCell ⟨w.heap.size, 2, none⟩ (.int .i64 b.rate)).setCell ⟨w.heap.size + 1, 0, none⟩ (.int .i64 p.kind)).setCell ⟨w.heap.size + 1, 1, none⟩ (.int .i64 p.age)).setCell ⟨w.heap.size + 1, 2, none⟩ (.int .i64 p.years)).setCell ⟨w.heap.size + 1, 3, none⟩ (.int .i64 p.sum)).setCell ⟨w.heap.size + 1, 4, none⟩ (.int .i64 p.load)).cell? ⟨Gp, 3, none⟩ = some (.int .i64 p.sum) ∧ ((((((((w'.setCell ⟨w.heap.size, 0, none⟩ (.int .i64 b.first)).setCell ⟨w.heap.size, 1, none⟩ (.slice A n c)).setCell ⟨w.heap.size, 2, none⟩ (.int .i64 b.rate)).setCell ⟨w.heap.size + 1, 0, none⟩ (.int .i64 p.kind)).setCell ⟨w.heap.size + 1, 1, none⟩ (.int .i64 p.age)).setCell ⟨w.heap.size + 1, 2, none⟩ (.int .i64 p.years)).setCell ⟨w.heap.size + 1, 3, none⟩ (.int .i64 p.sum)).setCell ⟨w.heap.size + 1, 4, none⟩ (.int .i64 p.load)).cell? ⟨Gp, 4, none⟩ = some (.int .i64 p.load) from h.eight))
    have E1 := Lib.hid (HE.out.alloc (.cells #[.int .i64 50, .int .i64 20000, .int .i64 3000000] 2))
    have B1 := Lib.hid (Blk.new V 2 #[.int .i64 50, .int .i64 20000, .int .i64 3000000])
    go_region_held3 (fun w' => w'.cell? ⟨Gb, 0, none⟩ = some (.int .i64 b.first) ∧ w'.cell? ⟨Gb, 1, none⟩ = some (.slice A n c) ∧ w'.cell? ⟨Gb, 2, none⟩ = some (.int .i64 b.rate) ∧ w'.cell? ⟨Gp, 0, none⟩ = some (.int .i64 p.kind) ∧ w'.cell? ⟨Gp, 1, none⟩ = some (.int .i64 p.age) ∧ w'.cell? ⟨Gp, 2, none⟩ = some (.int .i64 p.years) ∧ w'.cell? ⟨Gp, 3, none⟩ = some (.int .i64 p.sum) ∧ w'.cell? ⟨Gp, 4, none⟩ = some (.int .i64 p.load)) (first | with_reducible exact HS.out _ HE8.out | with_reducible exact HS3.out _ HE8.out | with_reducible exact HS8.out _ HE8.out | with_reducible exact HS.out _ HE.out.drew | with_reducible exact HS.out _ HE.out | with_reducible exact HS.out _ E1.out | with_reducible exact HS.out _ E1.out.drew | with_reducible exact HS.out _ HE8.out.drew) (first | (go_at_call 33; first | (with_reducible refine (spec_l01Pick_any K hK g _ _ [.int .i64 50, .int .i64 20000, .int .i64 3000000] 3 _ E1.out.nx_ B1.out hgV rfl (by decide) (by decide) rfl).mono ?_; rintro e w8 ⟨x8, rfl, hx8, hT8⟩; simp only [OneOf, Value.int.injEq, true_and, or_false] at hx8; have HE8 := Lib.hid (E1.out.nxx hT8)) | (with_reducible refine (spec_l01Pick_any K hK g _ _ [.int .i64 50, .int .i64 20000, .int .i64 3000000] 3 _ E1.out.drew.nx_ B1.out.drew hgV rfl (by decide) (by decide) rfl).mono ?_; rintro e w8 ⟨x8, rfl, hx8, hT8⟩; simp only [OneOf, Value.int.injEq, true_and, or_false] at hx8; have HE8 := Lib.hid (E1.out.drew.nxx hT8))) | (go_at_call 32; with_reducible refine (spec_l01Next_any K hK g _ _ _ HE8.out.nx_).mono ?_; rintro e w9 ⟨x9, rfl, ⟨hx90, hx91⟩, hT9⟩; have HE8 := Lib.hid (HE8.out.nxx hT9); have c0 := HE8.out.za.cell 0; have z0 := HE8.out.za.frozen 0; have c1 := HE8.out.za.cell 1; have z1 := HE8.out.za.frozen 1; have c2 := HE8.out.za.cell 2; have z2 := HE8.out.za.frozen 2; have d0 := HE8.out.zb.cell 0; have y0 := HE8.out.zb.frozen 0; have d1 := HE8.out.zb.cell 1; have y1 := HE8.out.zb.frozen 1; have d2 := HE8.out.zb.cell 2; have y2 := HE8.out.zb.frozen 2; have d3 := HE8.out.zb.cell 3; have y3 := HE8.out.zb.frozen 3; have d4 := HE8.out.zb.cell 4; have y4 := HE8.out.zb.frozen 4))
    all_goals
      obtain ⟨fA, fB, fT, fO⟩ := HE8.out.fin
      clear c0 z0 c1 z1 c2 z2 d0 y0 d1 y1 d2 y2 d3 y3 d4 y4 HS HS3 HS8
      generalize ((((((((w9.setCell ⟨w.heap.size, 0, none⟩ (.int .i64 b.first)).setCell ⟨w.heap.size, 1, none⟩ (.slice A n c)).setCell ⟨w.heap.size, 2, none⟩ (.int .i64 b.rate)).setCell ⟨w.heap.size + 1, 0, none⟩ (.int .i64 p.kind)).setCell ⟨w.heap.size + 1, 1, none⟩ (.int .i64 p.age)).setCell ⟨w.heap.size + 1, 2, none⟩ (.int .i64 p.years)).setCell ⟨w.heap.size + 1, 3, none⟩ (.int .i64 p.sum)).setCell ⟨w.heap.size + 1, 4, none⟩ (.int .i64 p.load)) = W9 at fA fB fT fO ⊢
      have r0 : W9.cell? ⟨w.heap.size, 0, none⟩ = some (.int .i64 b.first) := fA.cell 0
      have r1 : W9.cell? ⟨w.heap.size, 1, none⟩ = some (.slice A n c) := fA.cell 1
      have r2 : W9.cell? ⟨w.heap.size, 2, none⟩ = some (.int .i64 b.rate) := fA.cell 2
      have s0 : W9.cell? ⟨w.heap.size + 1, 0, none⟩ = some (.int .i64 p.kind) := fB.cell 0
      have s1 : W9.cell? ⟨w.heap.size + 1, 1, none⟩ = some (.int .i64 p.age) := fB.cell 1
      have s2 : W9.cell? ⟨w.heap.size + 1, 2, none⟩ = some (.int .i64 p.years) := fB.cell 2
      have s3 : W9.cell? ⟨w.heap.size + 1, 3, none⟩ = some (.int .i64 p.sum) := fB.cell 3
      have s4 : W9.cell? ⟨w.heap.size + 1, 4, none⟩ = some (.int .i64 p.load) := fB.cell 4
      have FT := Lib.hid fT; have FO := Lib.hid fO
      clear fA fB fT fO
      have e1 : IntKind.i64.wrap (1 + x9) = 1 + x9 := IntWalk.i64_in _ (by omega)
      rw [e1]
      go_wp2
      refine bodyPost_ret (v := .tuple #[.agg #[.int .i64 b.first, .slice A n c, .int .i64 b.rate], .agg #[.int .i64 p.kind, .int .i64 p.age, .int .i64 p.years, .int .i64 p.sum, .int .i64 p.load], .int .i64 (1 + x9)]) (by simp [results, Tryz.results18, go_sem, r0, r1, r2, s0, s1, s2, s3, s4]) rfl ?_
      exact ⟨b, A, n, c, p, 1 + x9, rfl, FT.out, hn1, HLV.out, hf1, hr1, hfit, by omega, FO.out⟩
end Go.Proofs.YtkdfdbcpbgganaaGreatDoor
end
