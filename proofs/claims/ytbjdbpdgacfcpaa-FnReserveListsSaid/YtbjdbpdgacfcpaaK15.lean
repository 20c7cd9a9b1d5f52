/- Parts of a proof, one after another: DrawQ. No condition. -/
import Derived.Test.YtbjdbpdgacfcpaaK12
import Derived.Test.YtbjdbpdgacfcpaaK13
import Derived.Test.YtbjdbpdgacfcpaaK14
import Derived.Deep.RegionLaw
/- Draws of a basis, a policy and a year (printed by drawq.py). -/
section
namespace Go.Proofs.Ytbjdbpdgacfcpaa
open Go.RowKit Go.BigFrame

/-- a drawn basis and policy -/
structure PD (B : Nat) (w : World) (b : Bas) (A : Option Addr) (n c : Nat) (p : Policy) : Prop where
  liv : Res B w 2 1 A n c (intRows b.lives)
  sm : BasSmall b n
  ps : PolSmall p
theorem PD.more {B B' : Nat} {w : World} {b : Bas} {A : Option Addr} {n c : Nat} {p : Policy} (h : PD B w b A n c p) (hB : B' ≤ B) : PD B' w b A n c p := ⟨h.liv.more hB, h.sm, h.ps⟩
/-- the boxes of l11Draw and l12Draw -/
structure E11 (K : Code) (g : Nat) (w W : World) (Gb Gp : Nat) (b : Bas) (A : Option Addr) (n c : Nat) (p : Policy) : Prop where
  zb : Blk W w.heap.size 28 #[.int .i64 0, .slice none 0 0, .int .i64 0]
  zp : Blk W (w.heap.size + 1) 35 #[.int .i64 0, .int .i64 0, .int .i64 0, .int .i64 0, .int .i64 0]
  bas : Blk W Gb 28 #[.int .i64 b.first, .slice A n c, .int .i64 b.rate]
  pol : Blk W Gp 35 (polCells p)
  liv : Res (w.heap.size + 2) W 2 1 A n c (intRows b.lives)
  nx : Nx K g w W
  gw : g < w.heap.size
  wb : w.heap.size + 1 < Gb
  bp : Gb < Gp
namespace E11
variable {K : Code} {g : Nat} {w W W' : World} {Gb Gp : Nat} {b : Bas} {A : Option Addr} {n c : Nat} {p : Policy}
theorem nxx (h : E11 K g w W Gb Gp b A n c p) (hN : Nx K g W W') : E11 K g w W' Gb Gp b A n c p := by
  have h1 := h.gw; have h2 := h.wb; have h3 := h.bp
  exact { h with zb := h.zb.nx hN (by omega), zp := h.zp.nx hN (by omega), bas := h.bas.nx hN (by omega), pol := h.pol.nx hN (by omega), liv := h.liv.nx hN (by omega), nx := h.nx.trans hN }
theorem past (h : E11 K g w W Gb Gp b A n c p) (hb : Below W.heap.size W W') : E11 K g w W' Gb Gp b A n c p :=
  { h with zb := h.zb.below' hb, zp := h.zp.below' hb, bas := h.bas.below' hb, pol := h.pol.below' hb, liv := h.liv.past hb, nx := h.nx.past hb }
theorem src (h : E11 K g w W Gb Gp b A n c p) : Src K g W := h.nx.src
theorem basT (h : E11 K g w W Gb Gp b A n c p) (hs : BasSmall b n) : BasT W A n c b := by
  have hl : b.lives.length = n := by have := h.liv.len; rwa [intRows_length] at this
  refine BasT.of_res h.liv (by have := hs.len; omega) (fun x hx => ?_) ?_ ?_
  · have := hs.lives x hx; unfold In64; omega
  · have := hs.first; unfold In64; omega
  · have := hs.rate; unfold In64; omega
theorem pc0 (h : E11 K g w W Gb Gp b A n c p) : W.cell? ⟨Gp, 0, none⟩ = some (.int .i64 p.kind) := h.pol.cell 0
theorem out8 (h : E11 K g w W Gb Gp b A n c p) : Blk ((((((((W.setCell ⟨w.heap.size, 0, none⟩ (.int .i64 b.first)).setCell ⟨w.heap.size, 1, none⟩ (.slice A n c)).setCell ⟨w.heap.size, 2, none⟩ (.int .i64 b.rate)).setCell ⟨w.heap.size + 1, 0, none⟩ (.int .i64 p.kind)).setCell ⟨w.heap.size + 1, 1, none⟩ (.int .i64 p.age)).setCell ⟨w.heap.size + 1, 2, none⟩ (.int .i64 p.years)).setCell ⟨w.heap.size + 1, 3, none⟩ (.int .i64 p.sum)).setCell ⟨w.heap.size + 1, 4, none⟩ (.int .i64 p.load)) w.heap.size 28 #[.int .i64 b.first, .slice A n c, .int .i64 b.rate] ∧ Blk ((((((((W.setCell ⟨w.heap.size, 0, none⟩ (.int .i64 b.first)).setCell ⟨w.heap.size, 1, none⟩ (.slice A n c)).setCell ⟨w.heap.size, 2, none⟩ (.int .i64 b.rate)).setCell ⟨w.heap.size + 1, 0, none⟩ (.int .i64 p.kind)).setCell ⟨w.heap.size + 1, 1, none⟩ (.int .i64 p.age)).setCell ⟨w.heap.size + 1, 2, none⟩ (.int .i64 p.years)).setCell ⟨w.heap.size + 1, 3, none⟩ (.int .i64 p.sum)).setCell ⟨w.heap.size + 1, 4, none⟩ (.int .i64 p.load)) (w.heap.size + 1) 35 #[.int .i64 p.kind, .int .i64 p.age, .int .i64 p.years, .int .i64 p.sum, .int .i64 p.load] ∧ Nx K g w ((((((((W.setCell ⟨w.heap.size, 0, none⟩ (.int .i64 b.first)).setCell ⟨w.heap.size, 1, none⟩ (.slice A n c)).setCell ⟨w.heap.size, 2, none⟩ (.int .i64 b.rate)).setCell ⟨w.heap.size + 1, 0, none⟩ (.int .i64 p.kind)).setCell ⟨w.heap.size + 1, 1, none⟩ (.int .i64 p.age)).setCell ⟨w.heap.size + 1, 2, none⟩ (.int .i64 p.years)).setCell ⟨w.heap.size + 1, 3, none⟩ (.int .i64 p.sum)).setCell ⟨w.heap.size + 1, 4, none⟩ (.int .i64 p.load)) ∧ Res (w.heap.size + 2) ((((((((W.setCell ⟨w.heap.size, 0, none⟩ (.int .i64 b.first)).setCell ⟨w.heap.size, 1, none⟩ (.slice A n c)).setCell ⟨w.heap.size, 2, none⟩ (.int .i64 b.rate)).setCell ⟨w.heap.size + 1, 0, none⟩ (.int .i64 p.kind)).setCell ⟨w.heap.size + 1, 1, none⟩ (.int .i64 p.age)).setCell ⟨w.heap.size + 1, 2, none⟩ (.int .i64 p.years)).setCell ⟨w.heap.size + 1, 3, none⟩ (.int .i64 p.sum)).setCell ⟨w.heap.size + 1, 4, none⟩ (.int .i64 p.load)) 2 1 A n c (intRows b.lives) := by
  refine ⟨by simpa using (((((((((h.zb).set_ 0 (.int .i64 b.first)).set_ 1 (.slice A n c)).set_ 2 (.int .i64 b.rate)).far (p := ⟨w.heap.size + 1, 0, none⟩) (by show w.heap.size ≠ w.heap.size + 1; omega) (.int .i64 p.kind)).far (p := ⟨w.heap.size + 1, 1, none⟩) (by show w.heap.size ≠ w.heap.size + 1; omega) (.int .i64 p.age)).far (p := ⟨w.heap.size + 1, 2, none⟩) (by show w.heap.size ≠ w.heap.size + 1; omega) (.int .i64 p.years)).far (p := ⟨w.heap.size + 1, 3, none⟩) (by show w.heap.size ≠ w.heap.size + 1; omega) (.int .i64 p.sum)).far (p := ⟨w.heap.size + 1, 4, none⟩) (by show w.heap.size ≠ w.heap.size + 1; omega) (.int .i64 p.load)), by simpa using (((((((((h.zp).far (p := ⟨w.heap.size, 0, none⟩) (by show w.heap.size + 1 ≠ w.heap.size; omega) (.int .i64 b.first)).far (p := ⟨w.heap.size, 1, none⟩) (by show w.heap.size + 1 ≠ w.heap.size; omega) (.slice A n c)).far (p := ⟨w.heap.size, 2, none⟩) (by show w.heap.size + 1 ≠ w.heap.size; omega) (.int .i64 b.rate)).set_ 0 (.int .i64 p.kind)).set_ 1 (.int .i64 p.age)).set_ 2 (.int .i64 p.years)).set_ 3 (.int .i64 p.sum)).set_ 4 (.int .i64 p.load)), h.nx.kept h.gw (Nat.le_refl _) (((((((((show Below w.heap.size W W from Below.refl _ _).setCell (p := ⟨w.heap.size, 0, none⟩) (Nat.le_refl _) (.int .i64 b.first)).setCell (p := ⟨w.heap.size, 1, none⟩) (Nat.le_refl _) (.slice A n c)).setCell (p := ⟨w.heap.size, 2, none⟩) (Nat.le_refl _) (.int .i64 b.rate)).setCell (p := ⟨w.heap.size + 1, 0, none⟩) (Nat.le_succ _) (.int .i64 p.kind)).setCell (p := ⟨w.heap.size + 1, 1, none⟩) (Nat.le_succ _) (.int .i64 p.age)).setCell (p := ⟨w.heap.size + 1, 2, none⟩) (Nat.le_succ _) (.int .i64 p.years)).setCell (p := ⟨w.heap.size + 1, 3, none⟩) (Nat.le_succ _) (.int .i64 p.sum)).setCell (p := ⟨w.heap.size + 1, 4, none⟩) (Nat.le_succ _) (.int .i64 p.load)), h.liv.keep fun a ha => ?_⟩
  have h9 := (h.liv.lt ha).1
  rw [Below.heap_setCell _ _ _ _ (by show a ≠ w.heap.size + 1; omega), Below.heap_setCell _ _ _ _ (by show a ≠ w.heap.size + 1; omega), Below.heap_setCell _ _ _ _ (by show a ≠ w.heap.size + 1; omega), Below.heap_setCell _ _ _ _ (by show a ≠ w.heap.size + 1; omega), Below.heap_setCell _ _ _ _ (by show a ≠ w.heap.size + 1; omega), Below.heap_setCell _ _ _ _ (by show a ≠ w.heap.size; omega), Below.heap_setCell _ _ _ _ (by show a ≠ w.heap.size; omega), Below.heap_setCell _ _ _ _ (by show a ≠ w.heap.size; omega)]
end E11
set_option maxRecDepth 100000 in
set_option maxHeartbeats 8000000 in
theorem spec_l11Draw_any (K : Code) (hK : K.Ok) (g : Nat) (w0 : World) (w : World) (hT : Nx K g w0 w) :
    Calls Try.prog 80 #[.pointer (some ⟨g, 0, none⟩)] w fun e w' => ∃ (b : Bas) (A : Option Addr) (n c : Nat) (p : Policy) (k : Int), e = .returned (.tuple #[.agg #[.int .i64 b.first, .slice A n c, .int .i64 b.rate], .agg #[.int .i64 p.kind, .int .i64 p.age, .int .i64 p.years, .int .i64 p.sum, .int .i64 p.load], .int .i64 k]) ∧ PD w0.heap.size w' b A n c p ∧ (-1 ≤ k ∧ k ≤ 200) ∧ Nx K g w0 w' := by
  have HT0 := Lib.hid hT
  have hgw := hT.src.lt
  have hOw := ((Nx.refl hT.src).alloc (.cells #[.int .i64 0, .slice none 0 0, .int .i64 0] 28)).alloc (.cells #[.int .i64 0, .int .i64 0, .int .i64 0, .int .i64 0, .int .i64 0] 35)
  have HZB := Lib.hid ((Blk.new w 28 #[.int .i64 0, .slice none 0 0, .int .i64 0]).alloc (.cells #[.int .i64 0, .int .i64 0, .int .i64 0, .int .i64 0, .int .i64 0] 35))
  have HZP := Lib.hid (Blk.new (w.alloc (.cells #[.int .i64 0, .slice none 0 0, .int .i64 0] 28)) 35 #[.int .i64 0, .int .i64 0, .int .i64 0, .int .i64 0, .int .i64 0])
  simp only [World.size_alloc] at HZP
  clear hT
  have hT := Nx.refl hOw.src
  have HSZ := Lib.hid (show w.heap.size + 2 = ((w.alloc (.cells #[.int .i64 0, .slice none 0 0, .int .i64 0] 28)).alloc (.cells #[.int .i64 0, .int .i64 0, .int .i64 0, .int .i64 0, .int .i64 0] 35)).heap.size by simp)
  go_enter Try.func80, Try.ntmps80
  go_wp2_with fail
  generalize ((w.alloc (.cells #[.int .i64 0, .slice none 0 0, .int .i64 0] 28)).alloc (.cells #[.int .i64 0, .int .i64 0, .int .i64 0, .int .i64 0, .int .i64 0] 35)) = Wa at hT hOw HZB HZP HSZ ⊢
  refine (spec_l10Draw_lit K hK g _ _ hT).mono ?_
  rintro e w3 ⟨b, A1, n1, c1, p, rfl, hR, hbs, hps, hT1⟩
  have h1s := hT1.size
  have hs0 := HSZ.out
  have HE := Lib.hid (show E11 K g w ((w3.alloc (.cells #[.int .i64 b.first, .slice A1 n1 c1, .int .i64 b.rate] 28)).alloc (.cells #[.int .i64 p.kind, .int .i64 p.age, .int .i64 p.years, .int .i64 p.sum, .int .i64 p.load] 35)) w3.heap.size (w3.heap.size + 1) b A1 n1 c1 p from
    { zb := ((HZB.out.nx hT1 (by omega)).alloc _).alloc _, zp := ((HZP.out.nx hT1 (by omega)).alloc _).alloc _, bas := (Blk.new w3 _ _).alloc _,
      pol := by have h := Blk.new (w3.alloc (.cells #[.int .i64 b.first, .slice A1 n1 c1, .int .i64 b.rate] 28)) 35 (polCells p); simp only [World.size_alloc] at h; exact h,
      liv := ((hR.more (by omega)).alloc _).alloc _, nx := ((hOw.trans hT1).alloc _).alloc _, gw := hgw, wb := by omega, bp := by omega })
  go_upto_region 2 with fail
  generalize (w3.alloc (.cells #[.int .i64 b.first, .slice A1 n1 c1, .int .i64 b.rate] 28)).alloc (.cells #[.int .i64 p.kind, .int .i64 p.age, .int .i64 p.years, .int .i64 p.sum, .int .i64 p.load] 35) = W4 at HE ⊢
  generalize w3.heap.size + 1 = Gp at HE ⊢
  generalize w3.heap.size = Gb at HE h1s ⊢
  clear hT hT1 hR HZB HZP hOw
  have HBS := Lib.hid hbs; have HPS := Lib.hid hps; clear hbs hps
  have HLB := Lib.hid (Rd.box (Blk.rd (r := [.int .i64 b.first, .slice A1 n1 c1, .int .i64 b.rate]) HE.out.bas)); have HLP := Lib.hid (Rd.box (Blk.rd (r := [.int .i64 p.kind, .int .i64 p.age, .int .i64 p.years, .int .i64 p.sum, .int .i64 p.load]) HE.out.pol))
  go_wp2_with (first | (refine wpList_load_agg rfl 28 _ rfl ⟨Gb, 0, none⟩ rfl [.int .i64 b.first, .slice A1 n1 c1, .int .i64 b.rate] HLB.out _ Try.underlying28 rfl Bas.size ?_) | (refine wpList_load_agg rfl 35 _ rfl ⟨Gp, 0, none⟩ rfl [.int .i64 p.kind, .int .i64 p.age, .int .i64 p.years, .int .i64 p.sum, .int .i64 p.load] HLP.out _ Try.underlying35 rfl Policy.size ?_))
  clear HLB HLP
  refine (spec_IsPolicy_any b A1 n1 c1 p _ (HE.out.basT HBS.out) HPS.out.fits).mono ?_
  rintro e w5 ⟨rfl, hb5⟩
  have HE5 := Lib.hid (HE.out.past hb5); clear hb5 HE
  cases hpb : polB b p
  · skip
    go_wp2_with fail
    refine (spec_l01Next_any K hK g _ _ _ (Nx.refl HE5.out.src)).mono ?_
    rintro e w7 ⟨x, rfl, ⟨hx0, hx1⟩, hT7⟩
    have HE7 := Lib.hid (HE5.out.nxx hT7); clear hT7
    cases hxz : (x == 0)
    · skip
      go_upto_region 7 with fail
      have b0 : w7.cell? ⟨Gb, 0, none⟩ = some (.int .i64 b.first) := HE7.out.bas.cell 0
      have b1 : w7.cell? ⟨Gb, 1, none⟩ = some (.slice A1 n1 c1) := HE7.out.bas.cell 1
      have b2 : w7.cell? ⟨Gb, 2, none⟩ = some (.int .i64 b.rate) := HE7.out.bas.cell 2
      have p0 : w7.cell? ⟨Gp, 0, none⟩ = some (.int .i64 p.kind) := HE7.out.pol.cell 0
      have p1 : w7.cell? ⟨Gp, 1, none⟩ = some (.int .i64 p.age) := HE7.out.pol.cell 1
      have p2 : w7.cell? ⟨Gp, 2, none⟩ = some (.int .i64 p.years) := HE7.out.pol.cell 2
      have p3 : w7.cell? ⟨Gp, 3, none⟩ = some (.int .i64 p.sum) := HE7.out.pol.cell 3
      have p4 : w7.cell? ⟨Gp, 4, none⟩ = some (.int .i64 p.load) := HE7.out.pol.cell 4
      have zc0 : w7.cell? ⟨w.heap.size, 0, none⟩ = some (.int .i64 0) := HE7.out.zb.cell 0
      have zf0 : w7.frozen? ⟨w.heap.size, 0, none⟩ = false := HE7.out.zb.frozen 0
      have zc1 : w7.cell? ⟨w.heap.size, 1, none⟩ = some (.slice none 0 0) := HE7.out.zb.cell 1
      have zf1 : w7.frozen? ⟨w.heap.size, 1, none⟩ = false := HE7.out.zb.frozen 1
      have zc2 : w7.cell? ⟨w.heap.size, 2, none⟩ = some (.int .i64 0) := HE7.out.zb.cell 2
      have zf2 : w7.frozen? ⟨w.heap.size, 2, none⟩ = false := HE7.out.zb.frozen 2
      have yc0 : w7.cell? ⟨w.heap.size + 1, 0, none⟩ = some (.int .i64 0) := HE7.out.zp.cell 0
      have yf0 : w7.frozen? ⟨w.heap.size + 1, 0, none⟩ = false := HE7.out.zp.frozen 0
      have yc1 : w7.cell? ⟨w.heap.size + 1, 1, none⟩ = some (.int .i64 0) := HE7.out.zp.cell 1
      have yf1 : w7.frozen? ⟨w.heap.size + 1, 1, none⟩ = false := HE7.out.zp.frozen 1
      have yc2 : w7.cell? ⟨w.heap.size + 1, 2, none⟩ = some (.int .i64 0) := HE7.out.zp.cell 2
      have yf2 : w7.frozen? ⟨w.heap.size + 1, 2, none⟩ = false := HE7.out.zp.frozen 2
      have yc3 : w7.cell? ⟨w.heap.size + 1, 3, none⟩ = some (.int .i64 0) := HE7.out.zp.cell 3
      have yf3 : w7.frozen? ⟨w.heap.size + 1, 3, none⟩ = false := HE7.out.zp.frozen 3
      have yc4 : w7.cell? ⟨w.heap.size + 1, 4, none⟩ = some (.int .i64 0) := HE7.out.zp.cell 4
      have yf4 : w7.frozen? ⟨w.heap.size + 1, 4, none⟩ = false := HE7.out.zp.frozen 4
      have HGL := Lib.hid HE7.out.src.lt
      have m0 : Gp ≠ w.heap.size := by have h8 := HE7.out.wb; have h9 := HE7.out.bp; omega
      have m1 : Gb ≠ w.heap.size := by have h8 := HE7.out.wb; have h9 := HE7.out.bp; omega
      have m2 : Gp ≠ w.heap.size + 1 := by have h8 := HE7.out.wb; have h9 := HE7.out.bp; omega
      have m3 : Gb ≠ w.heap.size + 1 := by have h8 := HE7.out.wb; have h9 := HE7.out.bp; omega
      go_region_law (go_simp; go_at_call 58; refine (spec_l01Next_any K hK g _ _ _ (by first | exact Nx.refl HE7.out.src | exact (Nx.refl HE7.out.src).drew)).mono ?_; rintro e w8 ⟨k9, rfl, ⟨hk0, hk1⟩, hT8⟩; have HE8 := Lib.hid (HE7.out.nxx hT8); have b0 : w8.cell? ⟨Gb, 0, none⟩ = some (.int .i64 b.first) := HE8.out.bas.cell 0; have b1 : w8.cell? ⟨Gb, 1, none⟩ = some (.slice A1 n1 c1) := HE8.out.bas.cell 1; have b2 : w8.cell? ⟨Gb, 2, none⟩ = some (.int .i64 b.rate) := HE8.out.bas.cell 2; have p0 : w8.cell? ⟨Gp, 0, none⟩ = some (.int .i64 p.kind) := HE8.out.pol.cell 0; have p1 : w8.cell? ⟨Gp, 1, none⟩ = some (.int .i64 p.age) := HE8.out.pol.cell 1; have p2 : w8.cell? ⟨Gp, 2, none⟩ = some (.int .i64 p.years) := HE8.out.pol.cell 2; have p3 : w8.cell? ⟨Gp, 3, none⟩ = some (.int .i64 p.sum) := HE8.out.pol.cell 3; have p4 : w8.cell? ⟨Gp, 4, none⟩ = some (.int .i64 p.load) := HE8.out.pol.cell 4; have zc0 : w8.cell? ⟨w.heap.size, 0, none⟩ = some (.int .i64 0) := HE8.out.zb.cell 0; have zf0 : w8.frozen? ⟨w.heap.size, 0, none⟩ = false := HE8.out.zb.frozen 0; have zc1 : w8.cell? ⟨w.heap.size, 1, none⟩ = some (.slice none 0 0) := HE8.out.zb.cell 1; have zf1 : w8.frozen? ⟨w.heap.size, 1, none⟩ = false := HE8.out.zb.frozen 1; have zc2 : w8.cell? ⟨w.heap.size, 2, none⟩ = some (.int .i64 0) := HE8.out.zb.cell 2; have zf2 : w8.frozen? ⟨w.heap.size, 2, none⟩ = false := HE8.out.zb.frozen 2; have yc0 : w8.cell? ⟨w.heap.size + 1, 0, none⟩ = some (.int .i64 0) := HE8.out.zp.cell 0; have yf0 : w8.frozen? ⟨w.heap.size + 1, 0, none⟩ = false := HE8.out.zp.frozen 0; have yc1 : w8.cell? ⟨w.heap.size + 1, 1, none⟩ = some (.int .i64 0) := HE8.out.zp.cell 1; have yf1 : w8.frozen? ⟨w.heap.size + 1, 1, none⟩ = false := HE8.out.zp.frozen 1; have yc2 : w8.cell? ⟨w.heap.size + 1, 2, none⟩ = some (.int .i64 0) := HE8.out.zp.cell 2; have yf2 : w8.frozen? ⟨w.heap.size + 1, 2, none⟩ = false := HE8.out.zp.frozen 2; have yc3 : w8.cell? ⟨w.heap.size + 1, 3, none⟩ = some (.int .i64 0) := HE8.out.zp.cell 3; have yf3 : w8.frozen? ⟨w.heap.size + 1, 3, none⟩ = false := HE8.out.zp.frozen 3; have yc4 : w8.cell? ⟨w.heap.size + 1, 4, none⟩ = some (.int .i64 0) := HE8.out.zp.cell 4; have yf4 : w8.frozen? ⟨w.heap.size + 1, 4, none⟩ = false := HE8.out.zp.frozen 4)
      all_goals
        have hk9 : -1 ≤ k9 ∧ k9 ≤ 200 := by omega
        obtain ⟨hz1, hz2, hN8, hR8⟩ := HE8.out.out8
        generalize ((((((((w8.setCell ⟨w.heap.size, 0, none⟩ (.int .i64 b.first)).setCell ⟨w.heap.size, 1, none⟩ (.slice A1 n1 c1)).setCell ⟨w.heap.size, 2, none⟩ (.int .i64 b.rate)).setCell ⟨w.heap.size + 1, 0, none⟩ (.int .i64 p.kind)).setCell ⟨w.heap.size + 1, 1, none⟩ (.int .i64 p.age)).setCell ⟨w.heap.size + 1, 2, none⟩ (.int .i64 p.years)).setCell ⟨w.heap.size + 1, 3, none⟩ (.int .i64 p.sum)).setCell ⟨w.heap.size + 1, 4, none⟩ (.int .i64 p.load)) = W9 at hz1 hz2 hN8 hR8 ⊢
        have q0 : W9.cell? ⟨w.heap.size, 0, none⟩ = some (.int .i64 b.first) := hz1.cell 0
        have q1 : W9.cell? ⟨w.heap.size, 1, none⟩ = some (.slice A1 n1 c1) := hz1.cell 1
        have q2 : W9.cell? ⟨w.heap.size, 2, none⟩ = some (.int .i64 b.rate) := hz1.cell 2
        have s0 : W9.cell? ⟨w.heap.size + 1, 0, none⟩ = some (.int .i64 p.kind) := hz2.cell 0
        have s1 : W9.cell? ⟨w.heap.size + 1, 1, none⟩ = some (.int .i64 p.age) := hz2.cell 1
        have s2 : W9.cell? ⟨w.heap.size + 1, 2, none⟩ = some (.int .i64 p.years) := hz2.cell 2
        have s3 : W9.cell? ⟨w.heap.size + 1, 3, none⟩ = some (.int .i64 p.sum) := hz2.cell 3
        have s4 : W9.cell? ⟨w.heap.size + 1, 4, none⟩ = some (.int .i64 p.load) := hz2.cell 4
        go_wp2_with fail
        refine bodyPost_ret (v := .tuple #[.agg #[.int .i64 b.first, .slice A1 n1 c1, .int .i64 b.rate], .agg #[.int .i64 p.kind, .int .i64 p.age, .int .i64 p.years, .int .i64 p.sum, .int .i64 p.load], .int .i64 k9]) (by simp [results, Try.results80, go_sem, q0, q1, q2, s0, s1, s2, s3, s4]) rfl ?_
        exact ⟨b, A1, n1, c1, p, k9, rfl, ⟨by first | exact hR8.more (by have := HT0.out.size; omega) | exact (hR8.more (by have := HT0.out.size; omega)).drew, HBS.out, HPS.out⟩, hk9, by first | exact HT0.out.trans hN8 | exact (HT0.out.trans hN8).drew⟩
    · skip
      go_upto_region 6 with fail
      have b0 : w7.cell? ⟨Gb, 0, none⟩ = some (.int .i64 b.first) := HE7.out.bas.cell 0
      have b1 : w7.cell? ⟨Gb, 1, none⟩ = some (.slice A1 n1 c1) := HE7.out.bas.cell 1
      have b2 : w7.cell? ⟨Gb, 2, none⟩ = some (.int .i64 b.rate) := HE7.out.bas.cell 2
      have p0 : w7.cell? ⟨Gp, 0, none⟩ = some (.int .i64 p.kind) := HE7.out.pol.cell 0
      have p1 : w7.cell? ⟨Gp, 1, none⟩ = some (.int .i64 p.age) := HE7.out.pol.cell 1
      have p2 : w7.cell? ⟨Gp, 2, none⟩ = some (.int .i64 p.years) := HE7.out.pol.cell 2
      have p3 : w7.cell? ⟨Gp, 3, none⟩ = some (.int .i64 p.sum) := HE7.out.pol.cell 3
      have p4 : w7.cell? ⟨Gp, 4, none⟩ = some (.int .i64 p.load) := HE7.out.pol.cell 4
      have zc0 : w7.cell? ⟨w.heap.size, 0, none⟩ = some (.int .i64 0) := HE7.out.zb.cell 0
      have zf0 : w7.frozen? ⟨w.heap.size, 0, none⟩ = false := HE7.out.zb.frozen 0
      have zc1 : w7.cell? ⟨w.heap.size, 1, none⟩ = some (.slice none 0 0) := HE7.out.zb.cell 1
      have zf1 : w7.frozen? ⟨w.heap.size, 1, none⟩ = false := HE7.out.zb.frozen 1
      have zc2 : w7.cell? ⟨w.heap.size, 2, none⟩ = some (.int .i64 0) := HE7.out.zb.cell 2
      have zf2 : w7.frozen? ⟨w.heap.size, 2, none⟩ = false := HE7.out.zb.frozen 2
      have yc0 : w7.cell? ⟨w.heap.size + 1, 0, none⟩ = some (.int .i64 0) := HE7.out.zp.cell 0
      have yf0 : w7.frozen? ⟨w.heap.size + 1, 0, none⟩ = false := HE7.out.zp.frozen 0
      have yc1 : w7.cell? ⟨w.heap.size + 1, 1, none⟩ = some (.int .i64 0) := HE7.out.zp.cell 1
      have yf1 : w7.frozen? ⟨w.heap.size + 1, 1, none⟩ = false := HE7.out.zp.frozen 1
      have yc2 : w7.cell? ⟨w.heap.size + 1, 2, none⟩ = some (.int .i64 0) := HE7.out.zp.cell 2
      have yf2 : w7.frozen? ⟨w.heap.size + 1, 2, none⟩ = false := HE7.out.zp.frozen 2
      have yc3 : w7.cell? ⟨w.heap.size + 1, 3, none⟩ = some (.int .i64 0) := HE7.out.zp.cell 3
      have yf3 : w7.frozen? ⟨w.heap.size + 1, 3, none⟩ = false := HE7.out.zp.frozen 3
      have yc4 : w7.cell? ⟨w.heap.size + 1, 4, none⟩ = some (.int .i64 0) := HE7.out.zp.cell 4
      have yf4 : w7.frozen? ⟨w.heap.size + 1, 4, none⟩ = false := HE7.out.zp.frozen 4
      have HGL := Lib.hid HE7.out.src.lt
      have m0 : Gp ≠ w.heap.size := by have h8 := HE7.out.wb; have h9 := HE7.out.bp; omega
      have m1 : Gb ≠ w.heap.size := by have h8 := HE7.out.wb; have h9 := HE7.out.bp; omega
      have m2 : Gp ≠ w.heap.size + 1 := by have h8 := HE7.out.wb; have h9 := HE7.out.bp; omega
      have m3 : Gb ≠ w.heap.size + 1 := by have h8 := HE7.out.wb; have h9 := HE7.out.bp; omega
      have hwd : IntKind.i64.wrap 4 = 4 := rfl
      have ab0 : (w7.alloc (.cells #[.int .i64 (-1), .int .i64 0, .int .i64 4, .int .i64 5] 2)).cell? ⟨Gb, 0, none⟩ = some (.int .i64 b.first) := (HE7.out.bas.alloc _).cell 0
      have ab1 : (w7.alloc (.cells #[.int .i64 (-1), .int .i64 0, .int .i64 4, .int .i64 5] 2)).cell? ⟨Gb, 1, none⟩ = some (.slice A1 n1 c1) := (HE7.out.bas.alloc _).cell 1
      have ab2 : (w7.alloc (.cells #[.int .i64 (-1), .int .i64 0, .int .i64 4, .int .i64 5] 2)).cell? ⟨Gb, 2, none⟩ = some (.int .i64 b.rate) := (HE7.out.bas.alloc _).cell 2
      have ap0 : (w7.alloc (.cells #[.int .i64 (-1), .int .i64 0, .int .i64 4, .int .i64 5] 2)).cell? ⟨Gp, 0, none⟩ = some (.int .i64 p.kind) := (HE7.out.pol.alloc _).cell 0
      have ap1 : (w7.alloc (.cells #[.int .i64 (-1), .int .i64 0, .int .i64 4, .int .i64 5] 2)).cell? ⟨Gp, 1, none⟩ = some (.int .i64 p.age) := (HE7.out.pol.alloc _).cell 1
      have ap2 : (w7.alloc (.cells #[.int .i64 (-1), .int .i64 0, .int .i64 4, .int .i64 5] 2)).cell? ⟨Gp, 2, none⟩ = some (.int .i64 p.years) := (HE7.out.pol.alloc _).cell 2
      have ap3 : (w7.alloc (.cells #[.int .i64 (-1), .int .i64 0, .int .i64 4, .int .i64 5] 2)).cell? ⟨Gp, 3, none⟩ = some (.int .i64 p.sum) := (HE7.out.pol.alloc _).cell 3
      have ap4 : (w7.alloc (.cells #[.int .i64 (-1), .int .i64 0, .int .i64 4, .int .i64 5] 2)).cell? ⟨Gp, 4, none⟩ = some (.int .i64 p.load) := (HE7.out.pol.alloc _).cell 4
      go_region_law (go_simp; go_at_call 99; refine (spec_l01Pick_any K hK g _ w7.heap.size [.int .i64 (-1), .int .i64 0, .int .i64 4, .int .i64 (5)] 4 _ (by first | exact (Nx.refl HE7.out.src).alloc _ | exact ((Nx.refl HE7.out.src).alloc _).drew) (by first | exact Blk.new w7 _ _ | exact (Blk.new w7 _ _).drew) HGL.out rfl (by decide) (by decide) rfl).mono ?_; rintro e w8 ⟨k9, rfl, hct, hT8⟩; simp only [OneOf, Value.int.injEq, true_and, or_false] at hct; have HE8 := Lib.hid (HE7.out.nxx hT8); have b0 : w8.cell? ⟨Gb, 0, none⟩ = some (.int .i64 b.first) := HE8.out.bas.cell 0; have b1 : w8.cell? ⟨Gb, 1, none⟩ = some (.slice A1 n1 c1) := HE8.out.bas.cell 1; have b2 : w8.cell? ⟨Gb, 2, none⟩ = some (.int .i64 b.rate) := HE8.out.bas.cell 2; have p0 : w8.cell? ⟨Gp, 0, none⟩ = some (.int .i64 p.kind) := HE8.out.pol.cell 0; have p1 : w8.cell? ⟨Gp, 1, none⟩ = some (.int .i64 p.age) := HE8.out.pol.cell 1; have p2 : w8.cell? ⟨Gp, 2, none⟩ = some (.int .i64 p.years) := HE8.out.pol.cell 2; have p3 : w8.cell? ⟨Gp, 3, none⟩ = some (.int .i64 p.sum) := HE8.out.pol.cell 3; have p4 : w8.cell? ⟨Gp, 4, none⟩ = some (.int .i64 p.load) := HE8.out.pol.cell 4; have zc0 : w8.cell? ⟨w.heap.size, 0, none⟩ = some (.int .i64 0) := HE8.out.zb.cell 0; have zf0 : w8.frozen? ⟨w.heap.size, 0, none⟩ = false := HE8.out.zb.frozen 0; have zc1 : w8.cell? ⟨w.heap.size, 1, none⟩ = some (.slice none 0 0) := HE8.out.zb.cell 1; have zf1 : w8.frozen? ⟨w.heap.size, 1, none⟩ = false := HE8.out.zb.frozen 1; have zc2 : w8.cell? ⟨w.heap.size, 2, none⟩ = some (.int .i64 0) := HE8.out.zb.cell 2; have zf2 : w8.frozen? ⟨w.heap.size, 2, none⟩ = false := HE8.out.zb.frozen 2; have yc0 : w8.cell? ⟨w.heap.size + 1, 0, none⟩ = some (.int .i64 0) := HE8.out.zp.cell 0; have yf0 : w8.frozen? ⟨w.heap.size + 1, 0, none⟩ = false := HE8.out.zp.frozen 0; have yc1 : w8.cell? ⟨w.heap.size + 1, 1, none⟩ = some (.int .i64 0) := HE8.out.zp.cell 1; have yf1 : w8.frozen? ⟨w.heap.size + 1, 1, none⟩ = false := HE8.out.zp.frozen 1; have yc2 : w8.cell? ⟨w.heap.size + 1, 2, none⟩ = some (.int .i64 0) := HE8.out.zp.cell 2; have yf2 : w8.frozen? ⟨w.heap.size + 1, 2, none⟩ = false := HE8.out.zp.frozen 2; have yc3 : w8.cell? ⟨w.heap.size + 1, 3, none⟩ = some (.int .i64 0) := HE8.out.zp.cell 3; have yf3 : w8.frozen? ⟨w.heap.size + 1, 3, none⟩ = false := HE8.out.zp.frozen 3; have yc4 : w8.cell? ⟨w.heap.size + 1, 4, none⟩ = some (.int .i64 0) := HE8.out.zp.cell 4; have yf4 : w8.frozen? ⟨w.heap.size + 1, 4, none⟩ = false := HE8.out.zp.frozen 4)
      all_goals
        have hk9 : -1 ≤ k9 ∧ k9 ≤ 200 := by omega
        obtain ⟨hz1, hz2, hN8, hR8⟩ := HE8.out.out8
        generalize ((((((((w8.setCell ⟨w.heap.size, 0, none⟩ (.int .i64 b.first)).setCell ⟨w.heap.size, 1, none⟩ (.slice A1 n1 c1)).setCell ⟨w.heap.size, 2, none⟩ (.int .i64 b.rate)).setCell ⟨w.heap.size + 1, 0, none⟩ (.int .i64 p.kind)).setCell ⟨w.heap.size + 1, 1, none⟩ (.int .i64 p.age)).setCell ⟨w.heap.size + 1, 2, none⟩ (.int .i64 p.years)).setCell ⟨w.heap.size + 1, 3, none⟩ (.int .i64 p.sum)).setCell ⟨w.heap.size + 1, 4, none⟩ (.int .i64 p.load)) = W9 at hz1 hz2 hN8 hR8 ⊢
        have q0 : W9.cell? ⟨w.heap.size, 0, none⟩ = some (.int .i64 b.first) := hz1.cell 0
        have q1 : W9.cell? ⟨w.heap.size, 1, none⟩ = some (.slice A1 n1 c1) := hz1.cell 1
        have q2 : W9.cell? ⟨w.heap.size, 2, none⟩ = some (.int .i64 b.rate) := hz1.cell 2
        have s0 : W9.cell? ⟨w.heap.size + 1, 0, none⟩ = some (.int .i64 p.kind) := hz2.cell 0
        have s1 : W9.cell? ⟨w.heap.size + 1, 1, none⟩ = some (.int .i64 p.age) := hz2.cell 1
        have s2 : W9.cell? ⟨w.heap.size + 1, 2, none⟩ = some (.int .i64 p.years) := hz2.cell 2
        have s3 : W9.cell? ⟨w.heap.size + 1, 3, none⟩ = some (.int .i64 p.sum) := hz2.cell 3
        have s4 : W9.cell? ⟨w.heap.size + 1, 4, none⟩ = some (.int .i64 p.load) := hz2.cell 4
        go_wp2_with fail
        refine bodyPost_ret (v := .tuple #[.agg #[.int .i64 b.first, .slice A1 n1 c1, .int .i64 b.rate], .agg #[.int .i64 p.kind, .int .i64 p.age, .int .i64 p.years, .int .i64 p.sum, .int .i64 p.load], .int .i64 k9]) (by simp [results, Try.results80, go_sem, q0, q1, q2, s0, s1, s2, s3, s4]) rfl ?_
        exact ⟨b, A1, n1, c1, p, k9, rfl, ⟨by first | exact hR8.more (by have := HT0.out.size; omega) | exact (hR8.more (by have := HT0.out.size; omega)).drew, HBS.out, HPS.out⟩, hk9, by first | exact HT0.out.trans hN8 | exact (HT0.out.trans hN8).drew⟩
  · skip
    have HPO := Lib.hid (pol_ok hpb)
    have hd0 := dur_pos HPO.out; have hd1 := dur_small HPO.out
    have HLB := Lib.hid (Rd.box (Blk.rd (r := [.int .i64 b.first, .slice A1 n1 c1, .int .i64 b.rate]) HE5.out.bas)); have HLP := Lib.hid (Rd.box (Blk.rd (r := [.int .i64 p.kind, .int .i64 p.age, .int .i64 p.years, .int .i64 p.sum, .int .i64 p.load]) HE5.out.pol))
    go_wp2_with (first | (refine wpList_load_agg rfl 28 _ rfl ⟨Gb, 0, none⟩ rfl [.int .i64 b.first, .slice A1 n1 c1, .int .i64 b.rate] HLB.out _ Try.underlying28 rfl Bas.size ?_) | (refine wpList_load_agg rfl 35 _ rfl ⟨Gp, 0, none⟩ rfl [.int .i64 p.kind, .int .i64 p.age, .int .i64 p.years, .int .i64 p.sum, .int .i64 p.load] HLP.out _ Try.underlying35 rfl Policy.size ?_))
    clear HLB HLP
    refine (spec_l10Duration_any b A1 n1 c1 p _ (HE5.out.basT HBS.out) HPO.out).mono ?_
    rintro e w6 ⟨rfl, hb6⟩
    have HE6 := Lib.hid (HE5.out.past hb6); clear hb6 HE5
    go_wp2_with fail
    refine (spec_l01Next_any K hK g _ _ _ (Nx.refl HE6.out.src)).mono ?_
    rintro e w7 ⟨x, rfl, ⟨hx0, hx1⟩, hT7⟩
    have HE7 := Lib.hid (HE6.out.nxx hT7); clear hT7
    cases hxz : (x == 0)
    · skip
      go_upto_region 7 with fail
      have b0 : w7.cell? ⟨Gb, 0, none⟩ = some (.int .i64 b.first) := HE7.out.bas.cell 0
      have b1 : w7.cell? ⟨Gb, 1, none⟩ = some (.slice A1 n1 c1) := HE7.out.bas.cell 1
      have b2 : w7.cell? ⟨Gb, 2, none⟩ = some (.int .i64 b.rate) := HE7.out.bas.cell 2
      have p0 : w7.cell? ⟨Gp, 0, none⟩ = some (.int .i64 p.kind) := HE7.out.pol.cell 0
      have p1 : w7.cell? ⟨Gp, 1, none⟩ = some (.int .i64 p.age) := HE7.out.pol.cell 1
      have p2 : w7.cell? ⟨Gp, 2, none⟩ = some (.int .i64 p.years) := HE7.out.pol.cell 2
      have p3 : w7.cell? ⟨Gp, 3, none⟩ = some (.int .i64 p.sum) := HE7.out.pol.cell 3
      have p4 : w7.cell? ⟨Gp, 4, none⟩ = some (.int .i64 p.load) := HE7.out.pol.cell 4
      have zc0 : w7.cell? ⟨w.heap.size, 0, none⟩ = some (.int .i64 0) := HE7.out.zb.cell 0
      have zf0 : w7.frozen? ⟨w.heap.size, 0, none⟩ = false := HE7.out.zb.frozen 0
      have zc1 : w7.cell? ⟨w.heap.size, 1, none⟩ = some (.slice none 0 0) := HE7.out.zb.cell 1
      have zf1 : w7.frozen? ⟨w.heap.size, 1, none⟩ = false := HE7.out.zb.frozen 1
      have zc2 : w7.cell? ⟨w.heap.size, 2, none⟩ = some (.int .i64 0) := HE7.out.zb.cell 2
      have zf2 : w7.frozen? ⟨w.heap.size, 2, none⟩ = false := HE7.out.zb.frozen 2
      have yc0 : w7.cell? ⟨w.heap.size + 1, 0, none⟩ = some (.int .i64 0) := HE7.out.zp.cell 0
      have yf0 : w7.frozen? ⟨w.heap.size + 1, 0, none⟩ = false := HE7.out.zp.frozen 0
      have yc1 : w7.cell? ⟨w.heap.size + 1, 1, none⟩ = some (.int .i64 0) := HE7.out.zp.cell 1
      have yf1 : w7.frozen? ⟨w.heap.size + 1, 1, none⟩ = false := HE7.out.zp.frozen 1
      have yc2 : w7.cell? ⟨w.heap.size + 1, 2, none⟩ = some (.int .i64 0) := HE7.out.zp.cell 2
      have yf2 : w7.frozen? ⟨w.heap.size + 1, 2, none⟩ = false := HE7.out.zp.frozen 2
      have yc3 : w7.cell? ⟨w.heap.size + 1, 3, none⟩ = some (.int .i64 0) := HE7.out.zp.cell 3
      have yf3 : w7.frozen? ⟨w.heap.size + 1, 3, none⟩ = false := HE7.out.zp.frozen 3
      have yc4 : w7.cell? ⟨w.heap.size + 1, 4, none⟩ = some (.int .i64 0) := HE7.out.zp.cell 4
      have yf4 : w7.frozen? ⟨w.heap.size + 1, 4, none⟩ = false := HE7.out.zp.frozen 4
      have HGL := Lib.hid HE7.out.src.lt
      have m0 : Gp ≠ w.heap.size := by have h8 := HE7.out.wb; have h9 := HE7.out.bp; omega
      have m1 : Gb ≠ w.heap.size := by have h8 := HE7.out.wb; have h9 := HE7.out.bp; omega
      have m2 : Gp ≠ w.heap.size + 1 := by have h8 := HE7.out.wb; have h9 := HE7.out.bp; omega
      have m3 : Gb ≠ w.heap.size + 1 := by have h8 := HE7.out.wb; have h9 := HE7.out.bp; omega
      go_region_law (go_simp; go_at_call 58; refine (spec_l01Next_any K hK g _ _ _ (by first | exact Nx.refl HE7.out.src | exact (Nx.refl HE7.out.src).drew)).mono ?_; rintro e w8 ⟨k9, rfl, ⟨hk0, hk1⟩, hT8⟩; have HE8 := Lib.hid (HE7.out.nxx hT8); have b0 : w8.cell? ⟨Gb, 0, none⟩ = some (.int .i64 b.first) := HE8.out.bas.cell 0; have b1 : w8.cell? ⟨Gb, 1, none⟩ = some (.slice A1 n1 c1) := HE8.out.bas.cell 1; have b2 : w8.cell? ⟨Gb, 2, none⟩ = some (.int .i64 b.rate) := HE8.out.bas.cell 2; have p0 : w8.cell? ⟨Gp, 0, none⟩ = some (.int .i64 p.kind) := HE8.out.pol.cell 0; have p1 : w8.cell? ⟨Gp, 1, none⟩ = some (.int .i64 p.age) := HE8.out.pol.cell 1; have p2 : w8.cell? ⟨Gp, 2, none⟩ = some (.int .i64 p.years) := HE8.out.pol.cell 2; have p3 : w8.cell? ⟨Gp, 3, none⟩ = some (.int .i64 p.sum) := HE8.out.pol.cell 3; have p4 : w8.cell? ⟨Gp, 4, none⟩ = some (.int .i64 p.load) := HE8.out.pol.cell 4; have zc0 : w8.cell? ⟨w.heap.size, 0, none⟩ = some (.int .i64 0) := HE8.out.zb.cell 0; have zf0 : w8.frozen? ⟨w.heap.size, 0, none⟩ = false := HE8.out.zb.frozen 0; have zc1 : w8.cell? ⟨w.heap.size, 1, none⟩ = some (.slice none 0 0) := HE8.out.zb.cell 1; have zf1 : w8.frozen? ⟨w.heap.size, 1, none⟩ = false := HE8.out.zb.frozen 1; have zc2 : w8.cell? ⟨w.heap.size, 2, none⟩ = some (.int .i64 0) := HE8.out.zb.cell 2; have zf2 : w8.frozen? ⟨w.heap.size, 2, none⟩ = false := HE8.out.zb.frozen 2; have yc0 : w8.cell? ⟨w.heap.size + 1, 0, none⟩ = some (.int .i64 0) := HE8.out.zp.cell 0; have yf0 : w8.frozen? ⟨w.heap.size + 1, 0, none⟩ = false := HE8.out.zp.frozen 0; have yc1 : w8.cell? ⟨w.heap.size + 1, 1, none⟩ = some (.int .i64 0) := HE8.out.zp.cell 1; have yf1 : w8.frozen? ⟨w.heap.size + 1, 1, none⟩ = false := HE8.out.zp.frozen 1; have yc2 : w8.cell? ⟨w.heap.size + 1, 2, none⟩ = some (.int .i64 0) := HE8.out.zp.cell 2; have yf2 : w8.frozen? ⟨w.heap.size + 1, 2, none⟩ = false := HE8.out.zp.frozen 2; have yc3 : w8.cell? ⟨w.heap.size + 1, 3, none⟩ = some (.int .i64 0) := HE8.out.zp.cell 3; have yf3 : w8.frozen? ⟨w.heap.size + 1, 3, none⟩ = false := HE8.out.zp.frozen 3; have yc4 : w8.cell? ⟨w.heap.size + 1, 4, none⟩ = some (.int .i64 0) := HE8.out.zp.cell 4; have yf4 : w8.frozen? ⟨w.heap.size + 1, 4, none⟩ = false := HE8.out.zp.frozen 4)
      all_goals
        have hk9 : -1 ≤ k9 ∧ k9 ≤ 200 := by omega
        obtain ⟨hz1, hz2, hN8, hR8⟩ := HE8.out.out8
        generalize ((((((((w8.setCell ⟨w.heap.size, 0, none⟩ (.int .i64 b.first)).setCell ⟨w.heap.size, 1, none⟩ (.slice A1 n1 c1)).setCell ⟨w.heap.size, 2, none⟩ (.int .i64 b.rate)).setCell ⟨w.heap.size + 1, 0, none⟩ (.int .i64 p.kind)).setCell ⟨w.heap.size + 1, 1, none⟩ (.int .i64 p.age)).setCell ⟨w.heap.size + 1, 2, none⟩ (.int .i64 p.years)).setCell ⟨w.heap.size + 1, 3, none⟩ (.int .i64 p.sum)).setCell ⟨w.heap.size + 1, 4, none⟩ (.int .i64 p.load)) = W9 at hz1 hz2 hN8 hR8 ⊢
        have q0 : W9.cell? ⟨w.heap.size, 0, none⟩ = some (.int .i64 b.first) := hz1.cell 0
        have q1 : W9.cell? ⟨w.heap.size, 1, none⟩ = some (.slice A1 n1 c1) := hz1.cell 1
        have q2 : W9.cell? ⟨w.heap.size, 2, none⟩ = some (.int .i64 b.rate) := hz1.cell 2
        have s0 : W9.cell? ⟨w.heap.size + 1, 0, none⟩ = some (.int .i64 p.kind) := hz2.cell 0
        have s1 : W9.cell? ⟨w.heap.size + 1, 1, none⟩ = some (.int .i64 p.age) := hz2.cell 1
        have s2 : W9.cell? ⟨w.heap.size + 1, 2, none⟩ = some (.int .i64 p.years) := hz2.cell 2
        have s3 : W9.cell? ⟨w.heap.size + 1, 3, none⟩ = some (.int .i64 p.sum) := hz2.cell 3
        have s4 : W9.cell? ⟨w.heap.size + 1, 4, none⟩ = some (.int .i64 p.load) := hz2.cell 4
        go_wp2_with fail
        refine bodyPost_ret (v := .tuple #[.agg #[.int .i64 b.first, .slice A1 n1 c1, .int .i64 b.rate], .agg #[.int .i64 p.kind, .int .i64 p.age, .int .i64 p.years, .int .i64 p.sum, .int .i64 p.load], .int .i64 k9]) (by simp [results, Try.results80, go_sem, q0, q1, q2, s0, s1, s2, s3, s4]) rfl ?_
        exact ⟨b, A1, n1, c1, p, k9, rfl, ⟨by first | exact hR8.more (by have := HT0.out.size; omega) | exact (hR8.more (by have := HT0.out.size; omega)).drew, HBS.out, HPS.out⟩, hk9, by first | exact HT0.out.trans hN8 | exact (HT0.out.trans hN8).drew⟩
    · skip
      go_upto_region 6 with fail
      have b0 : w7.cell? ⟨Gb, 0, none⟩ = some (.int .i64 b.first) := HE7.out.bas.cell 0
      have b1 : w7.cell? ⟨Gb, 1, none⟩ = some (.slice A1 n1 c1) := HE7.out.bas.cell 1
      have b2 : w7.cell? ⟨Gb, 2, none⟩ = some (.int .i64 b.rate) := HE7.out.bas.cell 2
      have p0 : w7.cell? ⟨Gp, 0, none⟩ = some (.int .i64 p.kind) := HE7.out.pol.cell 0
      have p1 : w7.cell? ⟨Gp, 1, none⟩ = some (.int .i64 p.age) := HE7.out.pol.cell 1
      have p2 : w7.cell? ⟨Gp, 2, none⟩ = some (.int .i64 p.years) := HE7.out.pol.cell 2
      have p3 : w7.cell? ⟨Gp, 3, none⟩ = some (.int .i64 p.sum) := HE7.out.pol.cell 3
      have p4 : w7.cell? ⟨Gp, 4, none⟩ = some (.int .i64 p.load) := HE7.out.pol.cell 4
      have zc0 : w7.cell? ⟨w.heap.size, 0, none⟩ = some (.int .i64 0) := HE7.out.zb.cell 0
      have zf0 : w7.frozen? ⟨w.heap.size, 0, none⟩ = false := HE7.out.zb.frozen 0
      have zc1 : w7.cell? ⟨w.heap.size, 1, none⟩ = some (.slice none 0 0) := HE7.out.zb.cell 1
      have zf1 : w7.frozen? ⟨w.heap.size, 1, none⟩ = false := HE7.out.zb.frozen 1
      have zc2 : w7.cell? ⟨w.heap.size, 2, none⟩ = some (.int .i64 0) := HE7.out.zb.cell 2
      have zf2 : w7.frozen? ⟨w.heap.size, 2, none⟩ = false := HE7.out.zb.frozen 2
      have yc0 : w7.cell? ⟨w.heap.size + 1, 0, none⟩ = some (.int .i64 0) := HE7.out.zp.cell 0
      have yf0 : w7.frozen? ⟨w.heap.size + 1, 0, none⟩ = false := HE7.out.zp.frozen 0
      have yc1 : w7.cell? ⟨w.heap.size + 1, 1, none⟩ = some (.int .i64 0) := HE7.out.zp.cell 1
      have yf1 : w7.frozen? ⟨w.heap.size + 1, 1, none⟩ = false := HE7.out.zp.frozen 1
      have yc2 : w7.cell? ⟨w.heap.size + 1, 2, none⟩ = some (.int .i64 0) := HE7.out.zp.cell 2
      have yf2 : w7.frozen? ⟨w.heap.size + 1, 2, none⟩ = false := HE7.out.zp.frozen 2
      have yc3 : w7.cell? ⟨w.heap.size + 1, 3, none⟩ = some (.int .i64 0) := HE7.out.zp.cell 3
      have yf3 : w7.frozen? ⟨w.heap.size + 1, 3, none⟩ = false := HE7.out.zp.frozen 3
      have yc4 : w7.cell? ⟨w.heap.size + 1, 4, none⟩ = some (.int .i64 0) := HE7.out.zp.cell 4
      have yf4 : w7.frozen? ⟨w.heap.size + 1, 4, none⟩ = false := HE7.out.zp.frozen 4
      have HGL := Lib.hid HE7.out.src.lt
      have m0 : Gp ≠ w.heap.size := by have h8 := HE7.out.wb; have h9 := HE7.out.bp; omega
      have m1 : Gb ≠ w.heap.size := by have h8 := HE7.out.wb; have h9 := HE7.out.bp; omega
      have m2 : Gp ≠ w.heap.size + 1 := by have h8 := HE7.out.wb; have h9 := HE7.out.bp; omega
      have m3 : Gb ≠ w.heap.size + 1 := by have h8 := HE7.out.wb; have h9 := HE7.out.bp; omega
      have hwd : IntKind.i64.wrap (durP b p - 1) = durP b p - 1 := IntWalk.i64_in _ (by omega)
      have ab0 : (w7.alloc (.cells #[.int .i64 (-1), .int .i64 0, .int .i64 (durP b p - 1), .int .i64 (durP b p)] 2)).cell? ⟨Gb, 0, none⟩ = some (.int .i64 b.first) := (HE7.out.bas.alloc _).cell 0
      have ab1 : (w7.alloc (.cells #[.int .i64 (-1), .int .i64 0, .int .i64 (durP b p - 1), .int .i64 (durP b p)] 2)).cell? ⟨Gb, 1, none⟩ = some (.slice A1 n1 c1) := (HE7.out.bas.alloc _).cell 1
      have ab2 : (w7.alloc (.cells #[.int .i64 (-1), .int .i64 0, .int .i64 (durP b p - 1), .int .i64 (durP b p)] 2)).cell? ⟨Gb, 2, none⟩ = some (.int .i64 b.rate) := (HE7.out.bas.alloc _).cell 2
      have ap0 : (w7.alloc (.cells #[.int .i64 (-1), .int .i64 0, .int .i64 (durP b p - 1), .int .i64 (durP b p)] 2)).cell? ⟨Gp, 0, none⟩ = some (.int .i64 p.kind) := (HE7.out.pol.alloc _).cell 0
      have ap1 : (w7.alloc (.cells #[.int .i64 (-1), .int .i64 0, .int .i64 (durP b p - 1), .int .i64 (durP b p)] 2)).cell? ⟨Gp, 1, none⟩ = some (.int .i64 p.age) := (HE7.out.pol.alloc _).cell 1
      have ap2 : (w7.alloc (.cells #[.int .i64 (-1), .int .i64 0, .int .i64 (durP b p - 1), .int .i64 (durP b p)] 2)).cell? ⟨Gp, 2, none⟩ = some (.int .i64 p.years) := (HE7.out.pol.alloc _).cell 2
      have ap3 : (w7.alloc (.cells #[.int .i64 (-1), .int .i64 0, .int .i64 (durP b p - 1), .int .i64 (durP b p)] 2)).cell? ⟨Gp, 3, none⟩ = some (.int .i64 p.sum) := (HE7.out.pol.alloc _).cell 3
      have ap4 : (w7.alloc (.cells #[.int .i64 (-1), .int .i64 0, .int .i64 (durP b p - 1), .int .i64 (durP b p)] 2)).cell? ⟨Gp, 4, none⟩ = some (.int .i64 p.load) := (HE7.out.pol.alloc _).cell 4
      go_region_law (go_simp; go_at_call 99; refine (spec_l01Pick_any K hK g _ w7.heap.size [.int .i64 (-1), .int .i64 0, .int .i64 (durP b p - 1), .int .i64 (durP b p)] 4 _ (by first | exact (Nx.refl HE7.out.src).alloc _ | exact ((Nx.refl HE7.out.src).alloc _).drew) (by first | exact Blk.new w7 _ _ | exact (Blk.new w7 _ _).drew) HGL.out rfl (by decide) (by decide) rfl).mono ?_; rintro e w8 ⟨k9, rfl, hct, hT8⟩; simp only [OneOf, Value.int.injEq, true_and, or_false] at hct; have HE8 := Lib.hid (HE7.out.nxx hT8); have b0 : w8.cell? ⟨Gb, 0, none⟩ = some (.int .i64 b.first) := HE8.out.bas.cell 0; have b1 : w8.cell? ⟨Gb, 1, none⟩ = some (.slice A1 n1 c1) := HE8.out.bas.cell 1; have b2 : w8.cell? ⟨Gb, 2, none⟩ = some (.int .i64 b.rate) := HE8.out.bas.cell 2; have p0 : w8.cell? ⟨Gp, 0, none⟩ = some (.int .i64 p.kind) := HE8.out.pol.cell 0; have p1 : w8.cell? ⟨Gp, 1, none⟩ = some (.int .i64 p.age) := HE8.out.pol.cell 1; have p2 : w8.cell? ⟨Gp, 2, none⟩ = some (.int .i64 p.years) := HE8.out.pol.cell 2; have p3 : w8.cell? ⟨Gp, 3, none⟩ = some (.int .i64 p.sum) := HE8.out.pol.cell 3; have p4 : w8.cell? ⟨Gp, 4, none⟩ = some (.int .i64 p.load) := HE8.out.pol.cell 4; have zc0 : w8.cell? ⟨w.heap.size, 0, none⟩ = some (.int .i64 0) := HE8.out.zb.cell 0; have zf0 : w8.frozen? ⟨w.heap.size, 0, none⟩ = false := HE8.out.zb.frozen 0; have zc1 : w8.cell? ⟨w.heap.size, 1, none⟩ = some (.slice none 0 0) := HE8.out.zb.cell 1; have zf1 : w8.frozen? ⟨w.heap.size, 1, none⟩ = false := HE8.out.zb.frozen 1; have zc2 : w8.cell? ⟨w.heap.size, 2, none⟩ = some (.int .i64 0) := HE8.out.zb.cell 2; have zf2 : w8.frozen? ⟨w.heap.size, 2, none⟩ = false := HE8.out.zb.frozen 2; have yc0 : w8.cell? ⟨w.heap.size + 1, 0, none⟩ = some (.int .i64 0) := HE8.out.zp.cell 0; have yf0 : w8.frozen? ⟨w.heap.size + 1, 0, none⟩ = false := HE8.out.zp.frozen 0; have yc1 : w8.cell? ⟨w.heap.size + 1, 1, none⟩ = some (.int .i64 0) := HE8.out.zp.cell 1; have yf1 : w8.frozen? ⟨w.heap.size + 1, 1, none⟩ = false := HE8.out.zp.frozen 1; have yc2 : w8.cell? ⟨w.heap.size + 1, 2, none⟩ = some (.int .i64 0) := HE8.out.zp.cell 2; have yf2 : w8.frozen? ⟨w.heap.size + 1, 2, none⟩ = false := HE8.out.zp.frozen 2; have yc3 : w8.cell? ⟨w.heap.size + 1, 3, none⟩ = some (.int .i64 0) := HE8.out.zp.cell 3; have yf3 : w8.frozen? ⟨w.heap.size + 1, 3, none⟩ = false := HE8.out.zp.frozen 3; have yc4 : w8.cell? ⟨w.heap.size + 1, 4, none⟩ = some (.int .i64 0) := HE8.out.zp.cell 4; have yf4 : w8.frozen? ⟨w.heap.size + 1, 4, none⟩ = false := HE8.out.zp.frozen 4)
      all_goals
        have hk9 : -1 ≤ k9 ∧ k9 ≤ 200 := by omega
        obtain ⟨hz1, hz2, hN8, hR8⟩ := HE8.out.out8
        generalize ((((((((w8.setCell ⟨w.heap.size, 0, none⟩ (.int .i64 b.first)).setCell ⟨w.heap.size, 1, none⟩ (.slice A1 n1 c1)).setCell ⟨w.heap.size, 2, none⟩ (.int .i64 b.rate)).setCell ⟨w.heap.size + 1, 0, none⟩ (.int .i64 p.kind)).setCell ⟨w.heap.size + 1, 1, none⟩ (.int .i64 p.age)).setCell ⟨w.heap.size + 1, 2, none⟩ (.int .i64 p.years)).setCell ⟨w.heap.size + 1, 3, none⟩ (.int .i64 p.sum)).setCell ⟨w.heap.size + 1, 4, none⟩ (.int .i64 p.load)) = W9 at hz1 hz2 hN8 hR8 ⊢
        have q0 : W9.cell? ⟨w.heap.size, 0, none⟩ = some (.int .i64 b.first) := hz1.cell 0
        have q1 : W9.cell? ⟨w.heap.size, 1, none⟩ = some (.slice A1 n1 c1) := hz1.cell 1
        have q2 : W9.cell? ⟨w.heap.size, 2, none⟩ = some (.int .i64 b.rate) := hz1.cell 2
        have s0 : W9.cell? ⟨w.heap.size + 1, 0, none⟩ = some (.int .i64 p.kind) := hz2.cell 0
        have s1 : W9.cell? ⟨w.heap.size + 1, 1, none⟩ = some (.int .i64 p.age) := hz2.cell 1
        have s2 : W9.cell? ⟨w.heap.size + 1, 2, none⟩ = some (.int .i64 p.years) := hz2.cell 2
        have s3 : W9.cell? ⟨w.heap.size + 1, 3, none⟩ = some (.int .i64 p.sum) := hz2.cell 3
        have s4 : W9.cell? ⟨w.heap.size + 1, 4, none⟩ = some (.int .i64 p.load) := hz2.cell 4
        go_wp2_with fail
        refine bodyPost_ret (v := .tuple #[.agg #[.int .i64 b.first, .slice A1 n1 c1, .int .i64 b.rate], .agg #[.int .i64 p.kind, .int .i64 p.age, .int .i64 p.years, .int .i64 p.sum, .int .i64 p.load], .int .i64 k9]) (by simp [results, Try.results80, go_sem, q0, q1, q2, s0, s1, s2, s3, s4]) rfl ?_
        exact ⟨b, A1, n1, c1, p, k9, rfl, ⟨by first | exact hR8.more (by have := HT0.out.size; omega) | exact (hR8.more (by have := HT0.out.size; omega)).drew, HBS.out, HPS.out⟩, hk9, by first | exact HT0.out.trans hN8 | exact (HT0.out.trans hN8).drew⟩
set_option maxRecDepth 100000 in
set_option maxHeartbeats 8000000 in
theorem spec_l12Draw_any (K : Code) (hK : K.Ok) (g : Nat) (w0 : World) (w : World) (hT : Nx K g w0 w) :
    Calls Try.prog 86 #[.pointer (some ⟨g, 0, none⟩)] w fun e w' => ∃ (b : Bas) (A : Option Addr) (n c : Nat) (p : Policy) (k : Int), e = .returned (.tuple #[.agg #[.int .i64 b.first, .slice A n c, .int .i64 b.rate], .agg #[.int .i64 p.kind, .int .i64 p.age, .int .i64 p.years, .int .i64 p.sum, .int .i64 p.load], .int .i64 k]) ∧ PD w0.heap.size w' b A n c p ∧ (-1 ≤ k ∧ k ≤ 200) ∧ Nx K g w0 w' := by
  have HT0 := Lib.hid hT
  have hgw := hT.src.lt
  have hOw := ((Nx.refl hT.src).alloc (.cells #[.int .i64 0, .slice none 0 0, .int .i64 0] 28)).alloc (.cells #[.int .i64 0, .int .i64 0, .int .i64 0, .int .i64 0, .int .i64 0] 35)
  have HZB := Lib.hid ((Blk.new w 28 #[.int .i64 0, .slice none 0 0, .int .i64 0]).alloc (.cells #[.int .i64 0, .int .i64 0, .int .i64 0, .int .i64 0, .int .i64 0] 35))
  have HZP := Lib.hid (Blk.new (w.alloc (.cells #[.int .i64 0, .slice none 0 0, .int .i64 0] 28)) 35 #[.int .i64 0, .int .i64 0, .int .i64 0, .int .i64 0, .int .i64 0])
  simp only [World.size_alloc] at HZP
  clear hT
  have hT := Nx.refl hOw.src
  have HSZ := Lib.hid (show w.heap.size + 2 = ((w.alloc (.cells #[.int .i64 0, .slice none 0 0, .int .i64 0] 28)).alloc (.cells #[.int .i64 0, .int .i64 0, .int .i64 0, .int .i64 0, .int .i64 0] 35)).heap.size by simp)
  go_enter Try.func86, Try.ntmps86
  go_wp2_with fail
  generalize ((w.alloc (.cells #[.int .i64 0, .slice none 0 0, .int .i64 0] 28)).alloc (.cells #[.int .i64 0, .int .i64 0, .int .i64 0, .int .i64 0, .int .i64 0] 35)) = Wa at hT hOw HZB HZP HSZ ⊢
  refine (spec_l11Draw_any K hK g _ _ hT).mono ?_
  rintro e w3 ⟨b, A1, n1, c1, p, k, rfl, hP, ⟨hk0, hk1⟩, hT1⟩
  have h1s := hT1.size
  have hs0 := HSZ.out
  have HE := Lib.hid (show E11 K g w ((w3.alloc (.cells #[.int .i64 b.first, .slice A1 n1 c1, .int .i64 b.rate] 28)).alloc (.cells #[.int .i64 p.kind, .int .i64 p.age, .int .i64 p.years, .int .i64 p.sum, .int .i64 p.load] 35)) w3.heap.size (w3.heap.size + 1) b A1 n1 c1 p from
    { zb := ((HZB.out.nx hT1 (by omega)).alloc _).alloc _, zp := ((HZP.out.nx hT1 (by omega)).alloc _).alloc _, bas := (Blk.new w3 _ _).alloc _,
      pol := by have h := Blk.new (w3.alloc (.cells #[.int .i64 b.first, .slice A1 n1 c1, .int .i64 b.rate] 28)) 35 (polCells p); simp only [World.size_alloc] at h; exact h,
      liv := ((hP.liv.more (by omega)).alloc _).alloc _, nx := ((hOw.trans hT1).alloc _).alloc _, gw := hgw, wb := by omega, bp := by omega })
  go_upto_region 2 with fail
  generalize (w3.alloc (.cells #[.int .i64 b.first, .slice A1 n1 c1, .int .i64 b.rate] 28)).alloc (.cells #[.int .i64 p.kind, .int .i64 p.age, .int .i64 p.years, .int .i64 p.sum, .int .i64 p.load] 35) = W4 at HE ⊢
  generalize w3.heap.size + 1 = Gp at HE ⊢
  generalize w3.heap.size = Gb at HE h1s ⊢
  have HBS := Lib.hid hP.sm; have HPS := Lib.hid hP.ps
  clear hT hT1 hP HZB HZP hOw
  cases hk2 : decide (k < 2)
  · skip
    go_upto_region 4 with fail
    have b0 : W4.cell? ⟨Gb, 0, none⟩ = some (.int .i64 b.first) := HE.out.bas.cell 0
    have b1 : W4.cell? ⟨Gb, 1, none⟩ = some (.slice A1 n1 c1) := HE.out.bas.cell 1
    have b2 : W4.cell? ⟨Gb, 2, none⟩ = some (.int .i64 b.rate) := HE.out.bas.cell 2
    have p0 : W4.cell? ⟨Gp, 0, none⟩ = some (.int .i64 p.kind) := HE.out.pol.cell 0
    have p1 : W4.cell? ⟨Gp, 1, none⟩ = some (.int .i64 p.age) := HE.out.pol.cell 1
    have p2 : W4.cell? ⟨Gp, 2, none⟩ = some (.int .i64 p.years) := HE.out.pol.cell 2
    have p3 : W4.cell? ⟨Gp, 3, none⟩ = some (.int .i64 p.sum) := HE.out.pol.cell 3
    have p4 : W4.cell? ⟨Gp, 4, none⟩ = some (.int .i64 p.load) := HE.out.pol.cell 4
    have zc0 : W4.cell? ⟨w.heap.size, 0, none⟩ = some (.int .i64 0) := HE.out.zb.cell 0
    have zf0 : W4.frozen? ⟨w.heap.size, 0, none⟩ = false := HE.out.zb.frozen 0
    have zc1 : W4.cell? ⟨w.heap.size, 1, none⟩ = some (.slice none 0 0) := HE.out.zb.cell 1
    have zf1 : W4.frozen? ⟨w.heap.size, 1, none⟩ = false := HE.out.zb.frozen 1
    have zc2 : W4.cell? ⟨w.heap.size, 2, none⟩ = some (.int .i64 0) := HE.out.zb.cell 2
    have zf2 : W4.frozen? ⟨w.heap.size, 2, none⟩ = false := HE.out.zb.frozen 2
    have yc0 : W4.cell? ⟨w.heap.size + 1, 0, none⟩ = some (.int .i64 0) := HE.out.zp.cell 0
    have yf0 : W4.frozen? ⟨w.heap.size + 1, 0, none⟩ = false := HE.out.zp.frozen 0
    have yc1 : W4.cell? ⟨w.heap.size + 1, 1, none⟩ = some (.int .i64 0) := HE.out.zp.cell 1
    have yf1 : W4.frozen? ⟨w.heap.size + 1, 1, none⟩ = false := HE.out.zp.frozen 1
    have yc2 : W4.cell? ⟨w.heap.size + 1, 2, none⟩ = some (.int .i64 0) := HE.out.zp.cell 2
    have yf2 : W4.frozen? ⟨w.heap.size + 1, 2, none⟩ = false := HE.out.zp.frozen 2
    have yc3 : W4.cell? ⟨w.heap.size + 1, 3, none⟩ = some (.int .i64 0) := HE.out.zp.cell 3
    have yf3 : W4.frozen? ⟨w.heap.size + 1, 3, none⟩ = false := HE.out.zp.frozen 3
    have yc4 : W4.cell? ⟨w.heap.size + 1, 4, none⟩ = some (.int .i64 0) := HE.out.zp.cell 4
    have yf4 : W4.frozen? ⟨w.heap.size + 1, 4, none⟩ = false := HE.out.zp.frozen 4
    have m0 : Gp ≠ w.heap.size := by have h8 := HE.out.wb; have h9 := HE.out.bp; omega
    have m1 : Gb ≠ w.heap.size := by have h8 := HE.out.wb; have h9 := HE.out.bp; omega
    have m2 : Gp ≠ w.heap.size + 1 := by have h8 := HE.out.wb; have h9 := HE.out.bp; omega
    have m3 : Gb ≠ w.heap.size + 1 := by have h8 := HE.out.wb; have h9 := HE.out.bp; omega
    go_region
    all_goals
      obtain ⟨hz1, hz2, hN8, hR8⟩ := HE.out.out8
      generalize ((((((((W4.setCell ⟨w.heap.size, 0, none⟩ (.int .i64 b.first)).setCell ⟨w.heap.size, 1, none⟩ (.slice A1 n1 c1)).setCell ⟨w.heap.size, 2, none⟩ (.int .i64 b.rate)).setCell ⟨w.heap.size + 1, 0, none⟩ (.int .i64 p.kind)).setCell ⟨w.heap.size + 1, 1, none⟩ (.int .i64 p.age)).setCell ⟨w.heap.size + 1, 2, none⟩ (.int .i64 p.years)).setCell ⟨w.heap.size + 1, 3, none⟩ (.int .i64 p.sum)).setCell ⟨w.heap.size + 1, 4, none⟩ (.int .i64 p.load)) = W9 at hz1 hz2 hN8 hR8 ⊢
      have q0 : W9.cell? ⟨w.heap.size, 0, none⟩ = some (.int .i64 b.first) := hz1.cell 0
      have q1 : W9.cell? ⟨w.heap.size, 1, none⟩ = some (.slice A1 n1 c1) := hz1.cell 1
      have q2 : W9.cell? ⟨w.heap.size, 2, none⟩ = some (.int .i64 b.rate) := hz1.cell 2
      have s0 : W9.cell? ⟨w.heap.size + 1, 0, none⟩ = some (.int .i64 p.kind) := hz2.cell 0
      have s1 : W9.cell? ⟨w.heap.size + 1, 1, none⟩ = some (.int .i64 p.age) := hz2.cell 1
      have s2 : W9.cell? ⟨w.heap.size + 1, 2, none⟩ = some (.int .i64 p.years) := hz2.cell 2
      have s3 : W9.cell? ⟨w.heap.size + 1, 3, none⟩ = some (.int .i64 p.sum) := hz2.cell 3
      have s4 : W9.cell? ⟨w.heap.size + 1, 4, none⟩ = some (.int .i64 p.load) := hz2.cell 4
      go_wp2_with fail
      refine bodyPost_ret (v := .tuple #[.agg #[.int .i64 b.first, .slice A1 n1 c1, .int .i64 b.rate], .agg #[.int .i64 p.kind, .int .i64 p.age, .int .i64 p.years, .int .i64 p.sum, .int .i64 p.load], .int .i64 k]) (by simp [results, Try.results86, go_sem, q0, q1, q2, s0, s1, s2, s3, s4]) rfl ?_
      exact ⟨b, A1, n1, c1, p, k, rfl, ⟨by first | exact hR8.more (by have := HT0.out.size; omega) | exact (hR8.more (by have := HT0.out.size; omega)).drew, HBS.out, HPS.out⟩, ⟨by omega, by omega⟩, by first | exact HT0.out.trans hN8 | exact (HT0.out.trans hN8).drew⟩
  · skip
    go_wp2_with fail
    refine (spec_l01Next_any K hK g _ _ _ (Nx.refl HE.out.src)).mono ?_
    rintro e w7 ⟨x, rfl, ⟨hx0, hx1⟩, hT7⟩
    have HE7 := Lib.hid (HE.out.nxx hT7); clear hT7
    cases hxg : decide (0 < x)
    · skip
      go_upto_region 4 with fail
      have b0 : w7.cell? ⟨Gb, 0, none⟩ = some (.int .i64 b.first) := HE7.out.bas.cell 0
      have b1 : w7.cell? ⟨Gb, 1, none⟩ = some (.slice A1 n1 c1) := HE7.out.bas.cell 1
      have b2 : w7.cell? ⟨Gb, 2, none⟩ = some (.int .i64 b.rate) := HE7.out.bas.cell 2
      have p0 : w7.cell? ⟨Gp, 0, none⟩ = some (.int .i64 p.kind) := HE7.out.pol.cell 0
      have p1 : w7.cell? ⟨Gp, 1, none⟩ = some (.int .i64 p.age) := HE7.out.pol.cell 1
      have p2 : w7.cell? ⟨Gp, 2, none⟩ = some (.int .i64 p.years) := HE7.out.pol.cell 2
      have p3 : w7.cell? ⟨Gp, 3, none⟩ = some (.int .i64 p.sum) := HE7.out.pol.cell 3
      have p4 : w7.cell? ⟨Gp, 4, none⟩ = some (.int .i64 p.load) := HE7.out.pol.cell 4
      have zc0 : w7.cell? ⟨w.heap.size, 0, none⟩ = some (.int .i64 0) := HE7.out.zb.cell 0
      have zf0 : w7.frozen? ⟨w.heap.size, 0, none⟩ = false := HE7.out.zb.frozen 0
      have zc1 : w7.cell? ⟨w.heap.size, 1, none⟩ = some (.slice none 0 0) := HE7.out.zb.cell 1
      have zf1 : w7.frozen? ⟨w.heap.size, 1, none⟩ = false := HE7.out.zb.frozen 1
      have zc2 : w7.cell? ⟨w.heap.size, 2, none⟩ = some (.int .i64 0) := HE7.out.zb.cell 2
      have zf2 : w7.frozen? ⟨w.heap.size, 2, none⟩ = false := HE7.out.zb.frozen 2
      have yc0 : w7.cell? ⟨w.heap.size + 1, 0, none⟩ = some (.int .i64 0) := HE7.out.zp.cell 0
      have yf0 : w7.frozen? ⟨w.heap.size + 1, 0, none⟩ = false := HE7.out.zp.frozen 0
      have yc1 : w7.cell? ⟨w.heap.size + 1, 1, none⟩ = some (.int .i64 0) := HE7.out.zp.cell 1
      have yf1 : w7.frozen? ⟨w.heap.size + 1, 1, none⟩ = false := HE7.out.zp.frozen 1
      have yc2 : w7.cell? ⟨w.heap.size + 1, 2, none⟩ = some (.int .i64 0) := HE7.out.zp.cell 2
      have yf2 : w7.frozen? ⟨w.heap.size + 1, 2, none⟩ = false := HE7.out.zp.frozen 2
      have yc3 : w7.cell? ⟨w.heap.size + 1, 3, none⟩ = some (.int .i64 0) := HE7.out.zp.cell 3
      have yf3 : w7.frozen? ⟨w.heap.size + 1, 3, none⟩ = false := HE7.out.zp.frozen 3
      have yc4 : w7.cell? ⟨w.heap.size + 1, 4, none⟩ = some (.int .i64 0) := HE7.out.zp.cell 4
      have yf4 : w7.frozen? ⟨w.heap.size + 1, 4, none⟩ = false := HE7.out.zp.frozen 4
      have m0 : Gp ≠ w.heap.size := by have h8 := HE7.out.wb; have h9 := HE7.out.bp; omega
      have m1 : Gb ≠ w.heap.size := by have h8 := HE7.out.wb; have h9 := HE7.out.bp; omega
      have m2 : Gp ≠ w.heap.size + 1 := by have h8 := HE7.out.wb; have h9 := HE7.out.bp; omega
      have m3 : Gb ≠ w.heap.size + 1 := by have h8 := HE7.out.wb; have h9 := HE7.out.bp; omega
      go_region
      all_goals
        obtain ⟨hz1, hz2, hN8, hR8⟩ := HE7.out.out8
        generalize ((((((((w7.setCell ⟨w.heap.size, 0, none⟩ (.int .i64 b.first)).setCell ⟨w.heap.size, 1, none⟩ (.slice A1 n1 c1)).setCell ⟨w.heap.size, 2, none⟩ (.int .i64 b.rate)).setCell ⟨w.heap.size + 1, 0, none⟩ (.int .i64 p.kind)).setCell ⟨w.heap.size + 1, 1, none⟩ (.int .i64 p.age)).setCell ⟨w.heap.size + 1, 2, none⟩ (.int .i64 p.years)).setCell ⟨w.heap.size + 1, 3, none⟩ (.int .i64 p.sum)).setCell ⟨w.heap.size + 1, 4, none⟩ (.int .i64 p.load)) = W9 at hz1 hz2 hN8 hR8 ⊢
        have q0 : W9.cell? ⟨w.heap.size, 0, none⟩ = some (.int .i64 b.first) := hz1.cell 0
        have q1 : W9.cell? ⟨w.heap.size, 1, none⟩ = some (.slice A1 n1 c1) := hz1.cell 1
        have q2 : W9.cell? ⟨w.heap.size, 2, none⟩ = some (.int .i64 b.rate) := hz1.cell 2
        have s0 : W9.cell? ⟨w.heap.size + 1, 0, none⟩ = some (.int .i64 p.kind) := hz2.cell 0
        have s1 : W9.cell? ⟨w.heap.size + 1, 1, none⟩ = some (.int .i64 p.age) := hz2.cell 1
        have s2 : W9.cell? ⟨w.heap.size + 1, 2, none⟩ = some (.int .i64 p.years) := hz2.cell 2
        have s3 : W9.cell? ⟨w.heap.size + 1, 3, none⟩ = some (.int .i64 p.sum) := hz2.cell 3
        have s4 : W9.cell? ⟨w.heap.size + 1, 4, none⟩ = some (.int .i64 p.load) := hz2.cell 4
        go_wp2_with fail
        refine bodyPost_ret (v := .tuple #[.agg #[.int .i64 b.first, .slice A1 n1 c1, .int .i64 b.rate], .agg #[.int .i64 p.kind, .int .i64 p.age, .int .i64 p.years, .int .i64 p.sum, .int .i64 p.load], .int .i64 k]) (by simp [results, Try.results86, go_sem, q0, q1, q2, s0, s1, s2, s3, s4]) rfl ?_
        exact ⟨b, A1, n1, c1, p, k, rfl, ⟨by first | exact hR8.more (by have := HT0.out.size; omega) | exact (hR8.more (by have := HT0.out.size; omega)).drew, HBS.out, HPS.out⟩, ⟨by omega, by omega⟩, by first | exact HT0.out.trans hN8 | exact (HT0.out.trans hN8).drew⟩
    · skip
      go_upto_region 4 with fail
      have b0 : w7.cell? ⟨Gb, 0, none⟩ = some (.int .i64 b.first) := HE7.out.bas.cell 0
      have b1 : w7.cell? ⟨Gb, 1, none⟩ = some (.slice A1 n1 c1) := HE7.out.bas.cell 1
      have b2 : w7.cell? ⟨Gb, 2, none⟩ = some (.int .i64 b.rate) := HE7.out.bas.cell 2
      have p0 : w7.cell? ⟨Gp, 0, none⟩ = some (.int .i64 p.kind) := HE7.out.pol.cell 0
      have p1 : w7.cell? ⟨Gp, 1, none⟩ = some (.int .i64 p.age) := HE7.out.pol.cell 1
      have p2 : w7.cell? ⟨Gp, 2, none⟩ = some (.int .i64 p.years) := HE7.out.pol.cell 2
      have p3 : w7.cell? ⟨Gp, 3, none⟩ = some (.int .i64 p.sum) := HE7.out.pol.cell 3
      have p4 : w7.cell? ⟨Gp, 4, none⟩ = some (.int .i64 p.load) := HE7.out.pol.cell 4
      have zc0 : w7.cell? ⟨w.heap.size, 0, none⟩ = some (.int .i64 0) := HE7.out.zb.cell 0
      have zf0 : w7.frozen? ⟨w.heap.size, 0, none⟩ = false := HE7.out.zb.frozen 0
      have zc1 : w7.cell? ⟨w.heap.size, 1, none⟩ = some (.slice none 0 0) := HE7.out.zb.cell 1
      have zf1 : w7.frozen? ⟨w.heap.size, 1, none⟩ = false := HE7.out.zb.frozen 1
      have zc2 : w7.cell? ⟨w.heap.size, 2, none⟩ = some (.int .i64 0) := HE7.out.zb.cell 2
      have zf2 : w7.frozen? ⟨w.heap.size, 2, none⟩ = false := HE7.out.zb.frozen 2
      have yc0 : w7.cell? ⟨w.heap.size + 1, 0, none⟩ = some (.int .i64 0) := HE7.out.zp.cell 0
      have yf0 : w7.frozen? ⟨w.heap.size + 1, 0, none⟩ = false := HE7.out.zp.frozen 0
      have yc1 : w7.cell? ⟨w.heap.size + 1, 1, none⟩ = some (.int .i64 0) := HE7.out.zp.cell 1
      have yf1 : w7.frozen? ⟨w.heap.size + 1, 1, none⟩ = false := HE7.out.zp.frozen 1
      have yc2 : w7.cell? ⟨w.heap.size + 1, 2, none⟩ = some (.int .i64 0) := HE7.out.zp.cell 2
      have yf2 : w7.frozen? ⟨w.heap.size + 1, 2, none⟩ = false := HE7.out.zp.frozen 2
      have yc3 : w7.cell? ⟨w.heap.size + 1, 3, none⟩ = some (.int .i64 0) := HE7.out.zp.cell 3
      have yf3 : w7.frozen? ⟨w.heap.size + 1, 3, none⟩ = false := HE7.out.zp.frozen 3
      have yc4 : w7.cell? ⟨w.heap.size + 1, 4, none⟩ = some (.int .i64 0) := HE7.out.zp.cell 4
      have yf4 : w7.frozen? ⟨w.heap.size + 1, 4, none⟩ = false := HE7.out.zp.frozen 4
      have m0 : Gp ≠ w.heap.size := by have h8 := HE7.out.wb; have h9 := HE7.out.bp; omega
      have m1 : Gb ≠ w.heap.size := by have h8 := HE7.out.wb; have h9 := HE7.out.bp; omega
      have m2 : Gp ≠ w.heap.size + 1 := by have h8 := HE7.out.wb; have h9 := HE7.out.bp; omega
      have m3 : Gb ≠ w.heap.size + 1 := by have h8 := HE7.out.wb; have h9 := HE7.out.bp; omega
      go_region
      all_goals
        obtain ⟨hz1, hz2, hN8, hR8⟩ := HE7.out.out8
        generalize ((((((((w7.setCell ⟨w.heap.size, 0, none⟩ (.int .i64 b.first)).setCell ⟨w.heap.size, 1, none⟩ (.slice A1 n1 c1)).setCell ⟨w.heap.size, 2, none⟩ (.int .i64 b.rate)).setCell ⟨w.heap.size + 1, 0, none⟩ (.int .i64 p.kind)).setCell ⟨w.heap.size + 1, 1, none⟩ (.int .i64 p.age)).setCell ⟨w.heap.size + 1, 2, none⟩ (.int .i64 p.years)).setCell ⟨w.heap.size + 1, 3, none⟩ (.int .i64 p.sum)).setCell ⟨w.heap.size + 1, 4, none⟩ (.int .i64 p.load)) = W9 at hz1 hz2 hN8 hR8 ⊢
        have q0 : W9.cell? ⟨w.heap.size, 0, none⟩ = some (.int .i64 b.first) := hz1.cell 0
        have q1 : W9.cell? ⟨w.heap.size, 1, none⟩ = some (.slice A1 n1 c1) := hz1.cell 1
        have q2 : W9.cell? ⟨w.heap.size, 2, none⟩ = some (.int .i64 b.rate) := hz1.cell 2
        have s0 : W9.cell? ⟨w.heap.size + 1, 0, none⟩ = some (.int .i64 p.kind) := hz2.cell 0
        have s1 : W9.cell? ⟨w.heap.size + 1, 1, none⟩ = some (.int .i64 p.age) := hz2.cell 1
        have s2 : W9.cell? ⟨w.heap.size + 1, 2, none⟩ = some (.int .i64 p.years) := hz2.cell 2
        have s3 : W9.cell? ⟨w.heap.size + 1, 3, none⟩ = some (.int .i64 p.sum) := hz2.cell 3
        have s4 : W9.cell? ⟨w.heap.size + 1, 4, none⟩ = some (.int .i64 p.load) := hz2.cell 4
        go_wp2_with fail
        refine bodyPost_ret (v := .tuple #[.agg #[.int .i64 b.first, .slice A1 n1 c1, .int .i64 b.rate], .agg #[.int .i64 p.kind, .int .i64 p.age, .int .i64 p.years, .int .i64 p.sum, .int .i64 p.load], .int .i64 2]) (by simp [results, Try.results86, go_sem, q0, q1, q2, s0, s1, s2, s3, s4]) rfl ?_
        exact ⟨b, A1, n1, c1, p, 2, rfl, ⟨by first | exact hR8.more (by have := HT0.out.size; omega) | exact (hR8.more (by have := HT0.out.size; omega)).drew, HBS.out, HPS.out⟩, ⟨by omega, by omega⟩, by first | exact HT0.out.trans hN8 | exact (HT0.out.trans hN8).drew⟩
set_option maxRecDepth 100000 in
set_option maxHeartbeats 8000000 in
theorem spec_DrawReserveList_any (K : Code) (hK : K.Ok) (w : World) (hX : Rd w w.heap.size K.A 1 (byteRows K.bs)) :
    Calls Try.prog 19 #[.slice K.A K.n K.c] w fun e w' => ∃ (b : Bas) (A : Option Addr) (n c : Nat) (p : Policy), e = .returned (.tuple #[.agg #[.int .i64 b.first, .slice A n c, .int .i64 b.rate], .agg #[.int .i64 p.kind, .int .i64 p.age, .int .i64 p.years, .int .i64 p.sum, .int .i64 p.load]]) ∧ PD w.heap.size w' b A n c p ∧ Below w.heap.size w w' := by
  have hb0 : Below w.heap.size w ((w.alloc (.cells #[.int .i64 0, .slice none 0 0, .int .i64 0] 28)).alloc (.cells #[.int .i64 0, .int .i64 0, .int .i64 0, .int .i64 0, .int .i64 0] 35)) := ((Below.refl _ w).alloc (Nat.le_refl _) _).alloc (by simp) _
  have HZB := Lib.hid ((Blk.new w 28 #[.int .i64 0, .slice none 0 0, .int .i64 0]).alloc (.cells #[.int .i64 0, .int .i64 0, .int .i64 0, .int .i64 0, .int .i64 0] 35))
  have HZP := Lib.hid (Blk.new (w.alloc (.cells #[.int .i64 0, .slice none 0 0, .int .i64 0] 28)) 35 #[.int .i64 0, .int .i64 0, .int .i64 0, .int .i64 0, .int .i64 0])
  simp only [World.size_alloc] at HZP
  have hX := hX.past hb0
  have HBW := Lib.hid hb0; clear hb0
  have HSZ := Lib.hid (show w.heap.size + 2 = ((w.alloc (.cells #[.int .i64 0, .slice none 0 0, .int .i64 0] 28)).alloc (.cells #[.int .i64 0, .int .i64 0, .int .i64 0, .int .i64 0, .int .i64 0] 35)).heap.size by simp)
  go_enter Try.func19, Try.ntmps19
  go_wp2_with fail
  generalize ((w.alloc (.cells #[.int .i64 0, .slice none 0 0, .int .i64 0] 28)).alloc (.cells #[.int .i64 0, .int .i64 0, .int .i64 0, .int .i64 0, .int .i64 0] 35)) = Wa at HZB HZP HBW HSZ hX ⊢
  refine (spec_l01From_any K hK _ hX).mono ?_
  rintro e w1 ⟨g, rfl, hg, hb, hS⟩
  clear hX
  have hT := Nx.refl hS
  go_wp2_with fail
  refine (spec_l10Draw_lit K hK g _ _ hT).mono ?_
  rintro e w3 ⟨b, A1, n1, c1, p, rfl, hR, hbs, hps, hT1⟩
  have hs0 := HSZ.out
  have hg1 : g < w1.heap.size := hS.lt
  have h12 := hT1.size
  have h01 := hb.size
  have HZB3 := Lib.hid ((HZB.out.below' hb).nx hT1 (by omega))
  have HZP3 := Lib.hid ((HZP.out.below' hb).nx hT1 (by omega))
  have HB3 := Lib.hid (HBW.out.trans ((hb.mono (by omega)).trans (hT1.below.mono (by omega))))
  have HPD := Lib.hid (show PD w1.heap.size w3 b A1 n1 c1 p from ⟨hR, hbs, hps⟩)
  have zc0 : w3.cell? ⟨w.heap.size, 0, none⟩ = some (.int .i64 0) := HZB3.out.cell 0
  have zf0 : w3.frozen? ⟨w.heap.size, 0, none⟩ = false := HZB3.out.frozen 0
  have zc1 : w3.cell? ⟨w.heap.size, 1, none⟩ = some (.slice none 0 0) := HZB3.out.cell 1
  have zf1 : w3.frozen? ⟨w.heap.size, 1, none⟩ = false := HZB3.out.frozen 1
  have zc2 : w3.cell? ⟨w.heap.size, 2, none⟩ = some (.int .i64 0) := HZB3.out.cell 2
  have zf2 : w3.frozen? ⟨w.heap.size, 2, none⟩ = false := HZB3.out.frozen 2
  have yc0 : w3.cell? ⟨w.heap.size + 1, 0, none⟩ = some (.int .i64 0) := HZP3.out.cell 0
  have yf0 : w3.frozen? ⟨w.heap.size + 1, 0, none⟩ = false := HZP3.out.frozen 0
  have yc1 : w3.cell? ⟨w.heap.size + 1, 1, none⟩ = some (.int .i64 0) := HZP3.out.cell 1
  have yf1 : w3.frozen? ⟨w.heap.size + 1, 1, none⟩ = false := HZP3.out.frozen 1
  have yc2 : w3.cell? ⟨w.heap.size + 1, 2, none⟩ = some (.int .i64 0) := HZP3.out.cell 2
  have yf2 : w3.frozen? ⟨w.heap.size + 1, 2, none⟩ = false := HZP3.out.frozen 2
  have yc3 : w3.cell? ⟨w.heap.size + 1, 3, none⟩ = some (.int .i64 0) := HZP3.out.cell 3
  have yf3 : w3.frozen? ⟨w.heap.size + 1, 3, none⟩ = false := HZP3.out.frozen 3
  have yc4 : w3.cell? ⟨w.heap.size + 1, 4, none⟩ = some (.int .i64 0) := HZP3.out.cell 4
  have yf4 : w3.frozen? ⟨w.heap.size + 1, 4, none⟩ = false := HZP3.out.frozen 4
  clear hT hT1 hS hb HZB HZP HBW
  go_wp2_with fail
  have hz1 : Blk ((((((((w3.setCell ⟨w.heap.size, 0, none⟩ (.int .i64 b.first)).setCell ⟨w.heap.size, 1, none⟩ (.slice A1 n1 c1)).setCell ⟨w.heap.size, 2, none⟩ (.int .i64 b.rate)).setCell ⟨w.heap.size + 1, 0, none⟩ (.int .i64 p.kind)).setCell ⟨w.heap.size + 1, 1, none⟩ (.int .i64 p.age)).setCell ⟨w.heap.size + 1, 2, none⟩ (.int .i64 p.years)).setCell ⟨w.heap.size + 1, 3, none⟩ (.int .i64 p.sum)).setCell ⟨w.heap.size + 1, 4, none⟩ (.int .i64 p.load)) w.heap.size 28 #[.int .i64 b.first, .slice A1 n1 c1, .int .i64 b.rate] := by simpa using ((((((((HZB3.out.set_ 0 (.int .i64 b.first)).set_ 1 (.slice A1 n1 c1)).set_ 2 (.int .i64 b.rate)).far (p := ⟨w.heap.size + 1, 0, none⟩) (by show w.heap.size ≠ w.heap.size + 1; omega) (.int .i64 p.kind)).far (p := ⟨w.heap.size + 1, 1, none⟩) (by show w.heap.size ≠ w.heap.size + 1; omega) (.int .i64 p.age)).far (p := ⟨w.heap.size + 1, 2, none⟩) (by show w.heap.size ≠ w.heap.size + 1; omega) (.int .i64 p.years)).far (p := ⟨w.heap.size + 1, 3, none⟩) (by show w.heap.size ≠ w.heap.size + 1; omega) (.int .i64 p.sum)).far (p := ⟨w.heap.size + 1, 4, none⟩) (by show w.heap.size ≠ w.heap.size + 1; omega) (.int .i64 p.load))
  have hz2 : Blk ((((((((w3.setCell ⟨w.heap.size, 0, none⟩ (.int .i64 b.first)).setCell ⟨w.heap.size, 1, none⟩ (.slice A1 n1 c1)).setCell ⟨w.heap.size, 2, none⟩ (.int .i64 b.rate)).setCell ⟨w.heap.size + 1, 0, none⟩ (.int .i64 p.kind)).setCell ⟨w.heap.size + 1, 1, none⟩ (.int .i64 p.age)).setCell ⟨w.heap.size + 1, 2, none⟩ (.int .i64 p.years)).setCell ⟨w.heap.size + 1, 3, none⟩ (.int .i64 p.sum)).setCell ⟨w.heap.size + 1, 4, none⟩ (.int .i64 p.load)) (w.heap.size + 1) 35 #[.int .i64 p.kind, .int .i64 p.age, .int .i64 p.years, .int .i64 p.sum, .int .i64 p.load] := by simpa using ((((((((HZP3.out.far (p := ⟨w.heap.size, 0, none⟩) (by show w.heap.size + 1 ≠ w.heap.size; omega) (.int .i64 b.first)).far (p := ⟨w.heap.size, 1, none⟩) (by show w.heap.size + 1 ≠ w.heap.size; omega) (.slice A1 n1 c1)).far (p := ⟨w.heap.size, 2, none⟩) (by show w.heap.size + 1 ≠ w.heap.size; omega) (.int .i64 b.rate)).set_ 0 (.int .i64 p.kind)).set_ 1 (.int .i64 p.age)).set_ 2 (.int .i64 p.years)).set_ 3 (.int .i64 p.sum)).set_ 4 (.int .i64 p.load))
  have hb8 : Below w.heap.size w ((((((((w3.setCell ⟨w.heap.size, 0, none⟩ (.int .i64 b.first)).setCell ⟨w.heap.size, 1, none⟩ (.slice A1 n1 c1)).setCell ⟨w.heap.size, 2, none⟩ (.int .i64 b.rate)).setCell ⟨w.heap.size + 1, 0, none⟩ (.int .i64 p.kind)).setCell ⟨w.heap.size + 1, 1, none⟩ (.int .i64 p.age)).setCell ⟨w.heap.size + 1, 2, none⟩ (.int .i64 p.years)).setCell ⟨w.heap.size + 1, 3, none⟩ (.int .i64 p.sum)).setCell ⟨w.heap.size + 1, 4, none⟩ (.int .i64 p.load)) := ((((((((HB3.out.setCell (p := ⟨w.heap.size, 0, none⟩) (Nat.le_refl _) (.int .i64 b.first)).setCell (p := ⟨w.heap.size, 1, none⟩) (Nat.le_refl _) (.slice A1 n1 c1)).setCell (p := ⟨w.heap.size, 2, none⟩) (Nat.le_refl _) (.int .i64 b.rate)).setCell (p := ⟨w.heap.size + 1, 0, none⟩) (Nat.le_succ _) (.int .i64 p.kind)).setCell (p := ⟨w.heap.size + 1, 1, none⟩) (Nat.le_succ _) (.int .i64 p.age)).setCell (p := ⟨w.heap.size + 1, 2, none⟩) (Nat.le_succ _) (.int .i64 p.years)).setCell (p := ⟨w.heap.size + 1, 3, none⟩) (Nat.le_succ _) (.int .i64 p.sum)).setCell (p := ⟨w.heap.size + 1, 4, none⟩) (Nat.le_succ _) (.int .i64 p.load))
  have hR8 : Res w.heap.size ((((((((w3.setCell ⟨w.heap.size, 0, none⟩ (.int .i64 b.first)).setCell ⟨w.heap.size, 1, none⟩ (.slice A1 n1 c1)).setCell ⟨w.heap.size, 2, none⟩ (.int .i64 b.rate)).setCell ⟨w.heap.size + 1, 0, none⟩ (.int .i64 p.kind)).setCell ⟨w.heap.size + 1, 1, none⟩ (.int .i64 p.age)).setCell ⟨w.heap.size + 1, 2, none⟩ (.int .i64 p.years)).setCell ⟨w.heap.size + 1, 3, none⟩ (.int .i64 p.sum)).setCell ⟨w.heap.size + 1, 4, none⟩ (.int .i64 p.load)) 2 1 A1 n1 c1 (intRows b.lives) := (HPD.out.liv.keep fun a ha => by
    have h9 := (HPD.out.liv.lt ha).1
    rw [Below.heap_setCell _ _ _ _ (by show a ≠ w.heap.size + 1; omega), Below.heap_setCell _ _ _ _ (by show a ≠ w.heap.size + 1; omega), Below.heap_setCell _ _ _ _ (by show a ≠ w.heap.size + 1; omega), Below.heap_setCell _ _ _ _ (by show a ≠ w.heap.size + 1; omega), Below.heap_setCell _ _ _ _ (by show a ≠ w.heap.size + 1; omega), Below.heap_setCell _ _ _ _ (by show a ≠ w.heap.size; omega), Below.heap_setCell _ _ _ _ (by show a ≠ w.heap.size; omega), Below.heap_setCell _ _ _ _ (by show a ≠ w.heap.size; omega)]).more (by omega)
  generalize ((((((((w3.setCell ⟨w.heap.size, 0, none⟩ (.int .i64 b.first)).setCell ⟨w.heap.size, 1, none⟩ (.slice A1 n1 c1)).setCell ⟨w.heap.size, 2, none⟩ (.int .i64 b.rate)).setCell ⟨w.heap.size + 1, 0, none⟩ (.int .i64 p.kind)).setCell ⟨w.heap.size + 1, 1, none⟩ (.int .i64 p.age)).setCell ⟨w.heap.size + 1, 2, none⟩ (.int .i64 p.years)).setCell ⟨w.heap.size + 1, 3, none⟩ (.int .i64 p.sum)).setCell ⟨w.heap.size + 1, 4, none⟩ (.int .i64 p.load)) = W9 at hz1 hz2 hb8 hR8 ⊢
  have q0 : W9.cell? ⟨w.heap.size, 0, none⟩ = some (.int .i64 b.first) := hz1.cell 0
  have q1 : W9.cell? ⟨w.heap.size, 1, none⟩ = some (.slice A1 n1 c1) := hz1.cell 1
  have q2 : W9.cell? ⟨w.heap.size, 2, none⟩ = some (.int .i64 b.rate) := hz1.cell 2
  have s0 : W9.cell? ⟨w.heap.size + 1, 0, none⟩ = some (.int .i64 p.kind) := hz2.cell 0
  have s1 : W9.cell? ⟨w.heap.size + 1, 1, none⟩ = some (.int .i64 p.age) := hz2.cell 1
  have s2 : W9.cell? ⟨w.heap.size + 1, 2, none⟩ = some (.int .i64 p.years) := hz2.cell 2
  have s3 : W9.cell? ⟨w.heap.size + 1, 3, none⟩ = some (.int .i64 p.sum) := hz2.cell 3
  have s4 : W9.cell? ⟨w.heap.size + 1, 4, none⟩ = some (.int .i64 p.load) := hz2.cell 4
  have HB9 := Lib.hid hb8; have HR9 := Lib.hid hR8; clear hb8 hR8 hz1 hz2 zc0 zc1 zc2 zf0 zf1 zf2 yc0 yc1 yc2 yc3 yc4 yf0 yf1 yf2 yf3 yf4
  go_wp2_with fail
  refine bodyPost_ret (v := .tuple #[.agg #[.int .i64 b.first, .slice A1 n1 c1, .int .i64 b.rate], .agg #[.int .i64 p.kind, .int .i64 p.age, .int .i64 p.years, .int .i64 p.sum, .int .i64 p.load]]) (by simp [results, Try.results19, go_sem, q0, q1, q2, s0, s1, s2, s3, s4]) rfl ?_
  exact ⟨b, A1, n1, c1, p, rfl, ⟨HR9.out, HPD.out.sm, HPD.out.ps⟩, HB9.out⟩
set_option maxRecDepth 100000 in
set_option maxHeartbeats 8000000 in
theorem spec_DrawBestLeaving_any (K : Code) (hK : K.Ok) (w : World) (hX : Rd w w.heap.size K.A 1 (byteRows K.bs)) :
    Calls Try.prog 44 #[.slice K.A K.n K.c] w fun e w' => ∃ (b : Bas) (A : Option Addr) (n c : Nat) (p : Policy), e = .returned (.tuple #[.agg #[.int .i64 b.first, .slice A n c, .int .i64 b.rate], .agg #[.int .i64 p.kind, .int .i64 p.age, .int .i64 p.years, .int .i64 p.sum, .int .i64 p.load]]) ∧ PD w.heap.size w' b A n c p ∧ Below w.heap.size w w' := by
  have hb0 : Below w.heap.size w ((w.alloc (.cells #[.int .i64 0, .slice none 0 0, .int .i64 0] 28)).alloc (.cells #[.int .i64 0, .int .i64 0, .int .i64 0, .int .i64 0, .int .i64 0] 35)) := ((Below.refl _ w).alloc (Nat.le_refl _) _).alloc (by simp) _
  have HZB := Lib.hid ((Blk.new w 28 #[.int .i64 0, .slice none 0 0, .int .i64 0]).alloc (.cells #[.int .i64 0, .int .i64 0, .int .i64 0, .int .i64 0, .int .i64 0] 35))
  have HZP := Lib.hid (Blk.new (w.alloc (.cells #[.int .i64 0, .slice none 0 0, .int .i64 0] 28)) 35 #[.int .i64 0, .int .i64 0, .int .i64 0, .int .i64 0, .int .i64 0])
  simp only [World.size_alloc] at HZP
  have hX := hX.past hb0
  have HBW := Lib.hid hb0; clear hb0
  have HSZ := Lib.hid (show w.heap.size + 2 = ((w.alloc (.cells #[.int .i64 0, .slice none 0 0, .int .i64 0] 28)).alloc (.cells #[.int .i64 0, .int .i64 0, .int .i64 0, .int .i64 0, .int .i64 0] 35)).heap.size by simp)
  go_enter Try.func44, Try.ntmps44
  go_wp2_with fail
  generalize ((w.alloc (.cells #[.int .i64 0, .slice none 0 0, .int .i64 0] 28)).alloc (.cells #[.int .i64 0, .int .i64 0, .int .i64 0, .int .i64 0, .int .i64 0] 35)) = Wa at HZB HZP HBW HSZ hX ⊢
  refine (spec_l01From_any K hK _ hX).mono ?_
  rintro e w1 ⟨g, rfl, hg, hb, hS⟩
  clear hX
  have hT := Nx.refl hS
  go_wp2_with fail
  refine (spec_l10Draw_lit K hK g _ _ hT).mono ?_
  rintro e w3 ⟨b, A1, n1, c1, p, rfl, hR, hbs, hps, hT1⟩
  have hs0 := HSZ.out
  have hg1 : g < w1.heap.size := hS.lt
  have h12 := hT1.size
  have h01 := hb.size
  have HZB3 := Lib.hid ((HZB.out.below' hb).nx hT1 (by omega))
  have HZP3 := Lib.hid ((HZP.out.below' hb).nx hT1 (by omega))
  have HB3 := Lib.hid (HBW.out.trans ((hb.mono (by omega)).trans (hT1.below.mono (by omega))))
  have HPD := Lib.hid (show PD w1.heap.size w3 b A1 n1 c1 p from ⟨hR, hbs, hps⟩)
  have zc0 : w3.cell? ⟨w.heap.size, 0, none⟩ = some (.int .i64 0) := HZB3.out.cell 0
  have zf0 : w3.frozen? ⟨w.heap.size, 0, none⟩ = false := HZB3.out.frozen 0
  have zc1 : w3.cell? ⟨w.heap.size, 1, none⟩ = some (.slice none 0 0) := HZB3.out.cell 1
  have zf1 : w3.frozen? ⟨w.heap.size, 1, none⟩ = false := HZB3.out.frozen 1
  have zc2 : w3.cell? ⟨w.heap.size, 2, none⟩ = some (.int .i64 0) := HZB3.out.cell 2
  have zf2 : w3.frozen? ⟨w.heap.size, 2, none⟩ = false := HZB3.out.frozen 2
  have yc0 : w3.cell? ⟨w.heap.size + 1, 0, none⟩ = some (.int .i64 0) := HZP3.out.cell 0
  have yf0 : w3.frozen? ⟨w.heap.size + 1, 0, none⟩ = false := HZP3.out.frozen 0
  have yc1 : w3.cell? ⟨w.heap.size + 1, 1, none⟩ = some (.int .i64 0) := HZP3.out.cell 1
  have yf1 : w3.frozen? ⟨w.heap.size + 1, 1, none⟩ = false := HZP3.out.frozen 1
  have yc2 : w3.cell? ⟨w.heap.size + 1, 2, none⟩ = some (.int .i64 0) := HZP3.out.cell 2
  have yf2 : w3.frozen? ⟨w.heap.size + 1, 2, none⟩ = false := HZP3.out.frozen 2
  have yc3 : w3.cell? ⟨w.heap.size + 1, 3, none⟩ = some (.int .i64 0) := HZP3.out.cell 3
  have yf3 : w3.frozen? ⟨w.heap.size + 1, 3, none⟩ = false := HZP3.out.frozen 3
  have yc4 : w3.cell? ⟨w.heap.size + 1, 4, none⟩ = some (.int .i64 0) := HZP3.out.cell 4
  have yf4 : w3.frozen? ⟨w.heap.size + 1, 4, none⟩ = false := HZP3.out.frozen 4
  clear hT hT1 hS hb HZB HZP HBW
  go_wp2_with fail
  have hz1 : Blk ((((((((w3.setCell ⟨w.heap.size, 0, none⟩ (.int .i64 b.first)).setCell ⟨w.heap.size, 1, none⟩ (.slice A1 n1 c1)).setCell ⟨w.heap.size, 2, none⟩ (.int .i64 b.rate)).setCell ⟨w.heap.size + 1, 0, none⟩ (.int .i64 p.kind)).setCell ⟨w.heap.size + 1, 1, none⟩ (.int .i64 p.age)).setCell ⟨w.heap.size + 1, 2, none⟩ (.int .i64 p.years)).setCell ⟨w.heap.size + 1, 3, none⟩ (.int .i64 p.sum)).setCell ⟨w.heap.size + 1, 4, none⟩ (.int .i64 p.load)) w.heap.size 28 #[.int .i64 b.first, .slice A1 n1 c1, .int .i64 b.rate] := by simpa using ((((((((HZB3.out.set_ 0 (.int .i64 b.first)).set_ 1 (.slice A1 n1 c1)).set_ 2 (.int .i64 b.rate)).far (p := ⟨w.heap.size + 1, 0, none⟩) (by show w.heap.size ≠ w.heap.size + 1; omega) (.int .i64 p.kind)).far (p := ⟨w.heap.size + 1, 1, none⟩) (by show w.heap.size ≠ w.heap.size + 1; omega) (.int .i64 p.age)).far (p := ⟨w.heap.size + 1, 2, none⟩) (by show w.heap.size ≠ w.heap.size + 1; omega) (.int .i64 p.years)).far (p := ⟨w.heap.size + 1, 3, none⟩) (by show w.heap.size ≠ w.heap.size + 1; omega) (.int .i64 p.sum)).far (p := ⟨w.heap.size + 1, 4, none⟩) (by show w.heap.size ≠ w.heap.size + 1; omega) (.int .i64 p.load))
  have hz2 : Blk ((((((((w3.setCell ⟨w.heap.size, 0, none⟩ (.int .i64 b.first)).setCell ⟨w.heap.size, 1, none⟩ (.slice A1 n1 c1)).setCell ⟨w.heap.size, 2, none⟩ (.int .i64 b.rate)).setCell ⟨w.heap.size + 1, 0, none⟩ (.int .i64 p.kind)).setCell ⟨w.heap.size + 1, 1, none⟩ (.int .i64 p.age)).setCell ⟨w.heap.size + 1, 2, none⟩ (.int .i64 p.years)).setCell ⟨w.heap.size + 1, 3, none⟩ (.int .i64 p.sum)).setCell ⟨w.heap.size + 1, 4, none⟩ (.int .i64 p.load)) (w.heap.size + 1) 35 #[.int .i64 p.kind, .int .i64 p.age, .int .i64 p.years, .int .i64 p.sum, .int .i64 p.load] := by simpa using ((((((((HZP3.out.far (p := ⟨w.heap.size, 0, none⟩) (by show w.heap.size + 1 ≠ w.heap.size; omega) (.int .i64 b.first)).far (p := ⟨w.heap.size, 1, none⟩) (by show w.heap.size + 1 ≠ w.heap.size; omega) (.slice A1 n1 c1)).far (p := ⟨w.heap.size, 2, none⟩) (by show w.heap.size + 1 ≠ w.heap.size; omega) (.int .i64 b.rate)).set_ 0 (.int .i64 p.kind)).set_ 1 (.int .i64 p.age)).set_ 2 (.int .i64 p.years)).set_ 3 (.int .i64 p.sum)).set_ 4 (.int .i64 p.load))
  have hb8 : Below w.heap.size w ((((((((w3.setCell ⟨w.heap.size, 0, none⟩ (.int .i64 b.first)).setCell ⟨w.heap.size, 1, none⟩ (.slice A1 n1 c1)).setCell ⟨w.heap.size, 2, none⟩ (.int .i64 b.rate)).setCell ⟨w.heap.size + 1, 0, none⟩ (.int .i64 p.kind)).setCell ⟨w.heap.size + 1, 1, none⟩ (.int .i64 p.age)).setCell ⟨w.heap.size + 1, 2, none⟩ (.int .i64 p.years)).setCell ⟨w.heap.size + 1, 3, none⟩ (.int .i64 p.sum)).setCell ⟨w.heap.size + 1, 4, none⟩ (.int .i64 p.load)) := ((((((((HB3.out.setCell (p := ⟨w.heap.size, 0, none⟩) (Nat.le_refl _) (.int .i64 b.first)).setCell (p := ⟨w.heap.size, 1, none⟩) (Nat.le_refl _) (.slice A1 n1 c1)).setCell (p := ⟨w.heap.size, 2, none⟩) (Nat.le_refl _) (.int .i64 b.rate)).setCell (p := ⟨w.heap.size + 1, 0, none⟩) (Nat.le_succ _) (.int .i64 p.kind)).setCell (p := ⟨w.heap.size + 1, 1, none⟩) (Nat.le_succ _) (.int .i64 p.age)).setCell (p := ⟨w.heap.size + 1, 2, none⟩) (Nat.le_succ _) (.int .i64 p.years)).setCell (p := ⟨w.heap.size + 1, 3, none⟩) (Nat.le_succ _) (.int .i64 p.sum)).setCell (p := ⟨w.heap.size + 1, 4, none⟩) (Nat.le_succ _) (.int .i64 p.load))
  have hR8 : Res w.heap.size ((((((((w3.setCell ⟨w.heap.size, 0, none⟩ (.int .i64 b.first)).setCell ⟨w.heap.size, 1, none⟩ (.slice A1 n1 c1)).setCell ⟨w.heap.size, 2, none⟩ (.int .i64 b.rate)).setCell ⟨w.heap.size + 1, 0, none⟩ (.int .i64 p.kind)).setCell ⟨w.heap.size + 1, 1, none⟩ (.int .i64 p.age)).setCell ⟨w.heap.size + 1, 2, none⟩ (.int .i64 p.years)).setCell ⟨w.heap.size + 1, 3, none⟩ (.int .i64 p.sum)).setCell ⟨w.heap.size + 1, 4, none⟩ (.int .i64 p.load)) 2 1 A1 n1 c1 (intRows b.lives) := (HPD.out.liv.keep fun a ha => by
    have h9 := (HPD.out.liv.lt ha).1
    rw [Below.heap_setCell _ _ _ _ (by show a ≠ w.heap.size + 1; omega), Below.heap_setCell _ _ _ _ (by show a ≠ w.heap.size + 1; omega), Below.heap_setCell _ _ _ _ (by show a ≠ w.heap.size + 1; omega), Below.heap_setCell _ _ _ _ (by show a ≠ w.heap.size + 1; omega), Below.heap_setCell _ _ _ _ (by show a ≠ w.heap.size + 1; omega), Below.heap_setCell _ _ _ _ (by show a ≠ w.heap.size; omega), Below.heap_setCell _ _ _ _ (by show a ≠ w.heap.size; omega), Below.heap_setCell _ _ _ _ (by show a ≠ w.heap.size; omega)]).more (by omega)
  generalize ((((((((w3.setCell ⟨w.heap.size, 0, none⟩ (.int .i64 b.first)).setCell ⟨w.heap.size, 1, none⟩ (.slice A1 n1 c1)).setCell ⟨w.heap.size, 2, none⟩ (.int .i64 b.rate)).setCell ⟨w.heap.size + 1, 0, none⟩ (.int .i64 p.kind)).setCell ⟨w.heap.size + 1, 1, none⟩ (.int .i64 p.age)).setCell ⟨w.heap.size + 1, 2, none⟩ (.int .i64 p.years)).setCell ⟨w.heap.size + 1, 3, none⟩ (.int .i64 p.sum)).setCell ⟨w.heap.size + 1, 4, none⟩ (.int .i64 p.load)) = W9 at hz1 hz2 hb8 hR8 ⊢
  have q0 : W9.cell? ⟨w.heap.size, 0, none⟩ = some (.int .i64 b.first) := hz1.cell 0
  have q1 : W9.cell? ⟨w.heap.size, 1, none⟩ = some (.slice A1 n1 c1) := hz1.cell 1
  have q2 : W9.cell? ⟨w.heap.size, 2, none⟩ = some (.int .i64 b.rate) := hz1.cell 2
  have s0 : W9.cell? ⟨w.heap.size + 1, 0, none⟩ = some (.int .i64 p.kind) := hz2.cell 0
  have s1 : W9.cell? ⟨w.heap.size + 1, 1, none⟩ = some (.int .i64 p.age) := hz2.cell 1
  have s2 : W9.cell? ⟨w.heap.size + 1, 2, none⟩ = some (.int .i64 p.years) := hz2.cell 2
  have s3 : W9.cell? ⟨w.heap.size + 1, 3, none⟩ = some (.int .i64 p.sum) := hz2.cell 3
  have s4 : W9.cell? ⟨w.heap.size + 1, 4, none⟩ = some (.int .i64 p.load) := hz2.cell 4
  have HB9 := Lib.hid hb8; have HR9 := Lib.hid hR8; clear hb8 hR8 hz1 hz2 zc0 zc1 zc2 zf0 zf1 zf2 yc0 yc1 yc2 yc3 yc4 yf0 yf1 yf2 yf3 yf4
  go_wp2_with fail
  refine bodyPost_ret (v := .tuple #[.agg #[.int .i64 b.first, .slice A1 n1 c1, .int .i64 b.rate], .agg #[.int .i64 p.kind, .int .i64 p.age, .int .i64 p.years, .int .i64 p.sum, .int .i64 p.load]]) (by simp [results, Try.results44, go_sem, q0, q1, q2, s0, s1, s2, s3, s4]) rfl ?_
  exact ⟨b, A1, n1, c1, p, rfl, ⟨HR9.out, HPD.out.sm, HPD.out.ps⟩, HB9.out⟩
set_option maxRecDepth 100000 in
set_option maxHeartbeats 8000000 in
theorem spec_DrawRiskAt_any (K : Code) (hK : K.Ok) (w : World) (hX : Rd w w.heap.size K.A 1 (byteRows K.bs)) :
    Calls Try.prog 24 #[.slice K.A K.n K.c] w fun e w' => ∃ (b : Bas) (A : Option Addr) (n c : Nat) (p : Policy) (k : Int), e = .returned (.tuple #[.agg #[.int .i64 b.first, .slice A n c, .int .i64 b.rate], .agg #[.int .i64 p.kind, .int .i64 p.age, .int .i64 p.years, .int .i64 p.sum, .int .i64 p.load], .int .i64 k]) ∧ PD w.heap.size w' b A n c p ∧ (-1 ≤ k ∧ k ≤ 200) ∧ Below w.heap.size w w' := by
  have hb0 : Below w.heap.size w ((w.alloc (.cells #[.int .i64 0, .slice none 0 0, .int .i64 0] 28)).alloc (.cells #[.int .i64 0, .int .i64 0, .int .i64 0, .int .i64 0, .int .i64 0] 35)) := ((Below.refl _ w).alloc (Nat.le_refl _) _).alloc (by simp) _
  have HZB := Lib.hid ((Blk.new w 28 #[.int .i64 0, .slice none 0 0, .int .i64 0]).alloc (.cells #[.int .i64 0, .int .i64 0, .int .i64 0, .int .i64 0, .int .i64 0] 35))
  have HZP := Lib.hid (Blk.new (w.alloc (.cells #[.int .i64 0, .slice none 0 0, .int .i64 0] 28)) 35 #[.int .i64 0, .int .i64 0, .int .i64 0, .int .i64 0, .int .i64 0])
  simp only [World.size_alloc] at HZP
  have hX := hX.past hb0
  have HBW := Lib.hid hb0; clear hb0
  have HSZ := Lib.hid (show w.heap.size + 2 = ((w.alloc (.cells #[.int .i64 0, .slice none 0 0, .int .i64 0] 28)).alloc (.cells #[.int .i64 0, .int .i64 0, .int .i64 0, .int .i64 0, .int .i64 0] 35)).heap.size by simp)
  go_enter Try.func24, Try.ntmps24
  go_wp2_with fail
  generalize ((w.alloc (.cells #[.int .i64 0, .slice none 0 0, .int .i64 0] 28)).alloc (.cells #[.int .i64 0, .int .i64 0, .int .i64 0, .int .i64 0, .int .i64 0] 35)) = Wa at HZB HZP HBW HSZ hX ⊢
  refine (spec_l01From_any K hK _ hX).mono ?_
  rintro e w1 ⟨g, rfl, hg, hb, hS⟩
  clear hX
  have hT := Nx.refl hS
  go_wp2_with fail
  refine (spec_l11Draw_any K hK g _ _ hT).mono ?_
  rintro e w3 ⟨b, A1, n1, c1, p, k, rfl, hP, hk, hT1⟩
  have hs0 := HSZ.out
  have hg1 : g < w1.heap.size := hS.lt
  have h12 := hT1.size
  have h01 := hb.size
  have HZB3 := Lib.hid ((HZB.out.below' hb).nx hT1 (by omega))
  have HZP3 := Lib.hid ((HZP.out.below' hb).nx hT1 (by omega))
  have HB3 := Lib.hid (HBW.out.trans ((hb.mono (by omega)).trans (hT1.below.mono (by omega))))
  have HPD := Lib.hid (show PD w1.heap.size w3 b A1 n1 c1 p from hP)
  have zc0 : w3.cell? ⟨w.heap.size, 0, none⟩ = some (.int .i64 0) := HZB3.out.cell 0
  have zf0 : w3.frozen? ⟨w.heap.size, 0, none⟩ = false := HZB3.out.frozen 0
  have zc1 : w3.cell? ⟨w.heap.size, 1, none⟩ = some (.slice none 0 0) := HZB3.out.cell 1
  have zf1 : w3.frozen? ⟨w.heap.size, 1, none⟩ = false := HZB3.out.frozen 1
  have zc2 : w3.cell? ⟨w.heap.size, 2, none⟩ = some (.int .i64 0) := HZB3.out.cell 2
  have zf2 : w3.frozen? ⟨w.heap.size, 2, none⟩ = false := HZB3.out.frozen 2
  have yc0 : w3.cell? ⟨w.heap.size + 1, 0, none⟩ = some (.int .i64 0) := HZP3.out.cell 0
  have yf0 : w3.frozen? ⟨w.heap.size + 1, 0, none⟩ = false := HZP3.out.frozen 0
  have yc1 : w3.cell? ⟨w.heap.size + 1, 1, none⟩ = some (.int .i64 0) := HZP3.out.cell 1
  have yf1 : w3.frozen? ⟨w.heap.size + 1, 1, none⟩ = false := HZP3.out.frozen 1
  have yc2 : w3.cell? ⟨w.heap.size + 1, 2, none⟩ = some (.int .i64 0) := HZP3.out.cell 2
  have yf2 : w3.frozen? ⟨w.heap.size + 1, 2, none⟩ = false := HZP3.out.frozen 2
  have yc3 : w3.cell? ⟨w.heap.size + 1, 3, none⟩ = some (.int .i64 0) := HZP3.out.cell 3
  have yf3 : w3.frozen? ⟨w.heap.size + 1, 3, none⟩ = false := HZP3.out.frozen 3
  have yc4 : w3.cell? ⟨w.heap.size + 1, 4, none⟩ = some (.int .i64 0) := HZP3.out.cell 4
  have yf4 : w3.frozen? ⟨w.heap.size + 1, 4, none⟩ = false := HZP3.out.frozen 4
  clear hT hT1 hS hb HZB HZP HBW
  go_wp2_with fail
  have hz1 : Blk ((((((((w3.setCell ⟨w.heap.size, 0, none⟩ (.int .i64 b.first)).setCell ⟨w.heap.size, 1, none⟩ (.slice A1 n1 c1)).setCell ⟨w.heap.size, 2, none⟩ (.int .i64 b.rate)).setCell ⟨w.heap.size + 1, 0, none⟩ (.int .i64 p.kind)).setCell ⟨w.heap.size + 1, 1, none⟩ (.int .i64 p.age)).setCell ⟨w.heap.size + 1, 2, none⟩ (.int .i64 p.years)).setCell ⟨w.heap.size + 1, 3, none⟩ (.int .i64 p.sum)).setCell ⟨w.heap.size + 1, 4, none⟩ (.int .i64 p.load)) w.heap.size 28 #[.int .i64 b.first, .slice A1 n1 c1, .int .i64 b.rate] := by simpa using ((((((((HZB3.out.set_ 0 (.int .i64 b.first)).set_ 1 (.slice A1 n1 c1)).set_ 2 (.int .i64 b.rate)).far (p := ⟨w.heap.size + 1, 0, none⟩) (by show w.heap.size ≠ w.heap.size + 1; omega) (.int .i64 p.kind)).far (p := ⟨w.heap.size + 1, 1, none⟩) (by show w.heap.size ≠ w.heap.size + 1; omega) (.int .i64 p.age)).far (p := ⟨w.heap.size + 1, 2, none⟩) (by show w.heap.size ≠ w.heap.size + 1; omega) (.int .i64 p.years)).far (p := ⟨w.heap.size + 1, 3, none⟩) (by show w.heap.size ≠ w.heap.size + 1; omega) (.int .i64 p.sum)).far (p := ⟨w.heap.size + 1, 4, none⟩) (by show w.heap.size ≠ w.heap.size + 1; omega) (.int .i64 p.load))
  have hz2 : Blk ((((((((w3.setCell ⟨w.heap.size, 0, none⟩ (.int .i64 b.first)).setCell ⟨w.heap.size, 1, none⟩ (.slice A1 n1 c1)).setCell ⟨w.heap.size, 2, none⟩ (.int .i64 b.rate)).setCell ⟨w.heap.size + 1, 0, none⟩ (.int .i64 p.kind)).setCell ⟨w.heap.size + 1, 1, none⟩ (.int .i64 p.age)).setCell ⟨w.heap.size + 1, 2, none⟩ (.int .i64 p.years)).setCell ⟨w.heap.size + 1, 3, none⟩ (.int .i64 p.sum)).setCell ⟨w.heap.size + 1, 4, none⟩ (.int .i64 p.load)) (w.heap.size + 1) 35 #[.int .i64 p.kind, .int .i64 p.age, .int .i64 p.years, .int .i64 p.sum, .int .i64 p.load] := by simpa using ((((((((HZP3.out.far (p := ⟨w.heap.size, 0, none⟩) (by show w.heap.size + 1 ≠ w.heap.size; omega) (.int .i64 b.first)).far (p := ⟨w.heap.size, 1, none⟩) (by show w.heap.size + 1 ≠ w.heap.size; omega) (.slice A1 n1 c1)).far (p := ⟨w.heap.size, 2, none⟩) (by show w.heap.size + 1 ≠ w.heap.size; omega) (.int .i64 b.rate)).set_ 0 (.int .i64 p.kind)).set_ 1 (.int .i64 p.age)).set_ 2 (.int .i64 p.years)).set_ 3 (.int .i64 p.sum)).set_ 4 (.int .i64 p.load))
  have hb8 : Below w.heap.size w ((((((((w3.setCell ⟨w.heap.size, 0, none⟩ (.int .i64 b.first)).setCell ⟨w.heap.size, 1, none⟩ (.slice A1 n1 c1)).setCell ⟨w.heap.size, 2, none⟩ (.int .i64 b.rate)).setCell ⟨w.heap.size + 1, 0, none⟩ (.int .i64 p.kind)).setCell ⟨w.heap.size + 1, 1, none⟩ (.int .i64 p.age)).setCell ⟨w.heap.size + 1, 2, none⟩ (.int .i64 p.years)).setCell ⟨w.heap.size + 1, 3, none⟩ (.int .i64 p.sum)).setCell ⟨w.heap.size + 1, 4, none⟩ (.int .i64 p.load)) := ((((((((HB3.out.setCell (p := ⟨w.heap.size, 0, none⟩) (Nat.le_refl _) (.int .i64 b.first)).setCell (p := ⟨w.heap.size, 1, none⟩) (Nat.le_refl _) (.slice A1 n1 c1)).setCell (p := ⟨w.heap.size, 2, none⟩) (Nat.le_refl _) (.int .i64 b.rate)).setCell (p := ⟨w.heap.size + 1, 0, none⟩) (Nat.le_succ _) (.int .i64 p.kind)).setCell (p := ⟨w.heap.size + 1, 1, none⟩) (Nat.le_succ _) (.int .i64 p.age)).setCell (p := ⟨w.heap.size + 1, 2, none⟩) (Nat.le_succ _) (.int .i64 p.years)).setCell (p := ⟨w.heap.size + 1, 3, none⟩) (Nat.le_succ _) (.int .i64 p.sum)).setCell (p := ⟨w.heap.size + 1, 4, none⟩) (Nat.le_succ _) (.int .i64 p.load))
  have hR8 : Res w.heap.size ((((((((w3.setCell ⟨w.heap.size, 0, none⟩ (.int .i64 b.first)).setCell ⟨w.heap.size, 1, none⟩ (.slice A1 n1 c1)).setCell ⟨w.heap.size, 2, none⟩ (.int .i64 b.rate)).setCell ⟨w.heap.size + 1, 0, none⟩ (.int .i64 p.kind)).setCell ⟨w.heap.size + 1, 1, none⟩ (.int .i64 p.age)).setCell ⟨w.heap.size + 1, 2, none⟩ (.int .i64 p.years)).setCell ⟨w.heap.size + 1, 3, none⟩ (.int .i64 p.sum)).setCell ⟨w.heap.size + 1, 4, none⟩ (.int .i64 p.load)) 2 1 A1 n1 c1 (intRows b.lives) := (HPD.out.liv.keep fun a ha => by
    have h9 := (HPD.out.liv.lt ha).1
    rw [Below.heap_setCell _ _ _ _ (by show a ≠ w.heap.size + 1; omega), Below.heap_setCell _ _ _ _ (by show a ≠ w.heap.size + 1; omega), Below.heap_setCell _ _ _ _ (by show a ≠ w.heap.size + 1; omega), Below.heap_setCell _ _ _ _ (by show a ≠ w.heap.size + 1; omega), Below.heap_setCell _ _ _ _ (by show a ≠ w.heap.size + 1; omega), Below.heap_setCell _ _ _ _ (by show a ≠ w.heap.size; omega), Below.heap_setCell _ _ _ _ (by show a ≠ w.heap.size; omega), Below.heap_setCell _ _ _ _ (by show a ≠ w.heap.size; omega)]).more (by omega)
  generalize ((((((((w3.setCell ⟨w.heap.size, 0, none⟩ (.int .i64 b.first)).setCell ⟨w.heap.size, 1, none⟩ (.slice A1 n1 c1)).setCell ⟨w.heap.size, 2, none⟩ (.int .i64 b.rate)).setCell ⟨w.heap.size + 1, 0, none⟩ (.int .i64 p.kind)).setCell ⟨w.heap.size + 1, 1, none⟩ (.int .i64 p.age)).setCell ⟨w.heap.size + 1, 2, none⟩ (.int .i64 p.years)).setCell ⟨w.heap.size + 1, 3, none⟩ (.int .i64 p.sum)).setCell ⟨w.heap.size + 1, 4, none⟩ (.int .i64 p.load)) = W9 at hz1 hz2 hb8 hR8 ⊢
  have q0 : W9.cell? ⟨w.heap.size, 0, none⟩ = some (.int .i64 b.first) := hz1.cell 0
  have q1 : W9.cell? ⟨w.heap.size, 1, none⟩ = some (.slice A1 n1 c1) := hz1.cell 1
  have q2 : W9.cell? ⟨w.heap.size, 2, none⟩ = some (.int .i64 b.rate) := hz1.cell 2
  have s0 : W9.cell? ⟨w.heap.size + 1, 0, none⟩ = some (.int .i64 p.kind) := hz2.cell 0
  have s1 : W9.cell? ⟨w.heap.size + 1, 1, none⟩ = some (.int .i64 p.age) := hz2.cell 1
  have s2 : W9.cell? ⟨w.heap.size + 1, 2, none⟩ = some (.int .i64 p.years) := hz2.cell 2
  have s3 : W9.cell? ⟨w.heap.size + 1, 3, none⟩ = some (.int .i64 p.sum) := hz2.cell 3
  have s4 : W9.cell? ⟨w.heap.size + 1, 4, none⟩ = some (.int .i64 p.load) := hz2.cell 4
  have HB9 := Lib.hid hb8; have HR9 := Lib.hid hR8; clear hb8 hR8 hz1 hz2 zc0 zc1 zc2 zf0 zf1 zf2 yc0 yc1 yc2 yc3 yc4 yf0 yf1 yf2 yf3 yf4
  go_wp2_with fail
  refine bodyPost_ret (v := .tuple #[.agg #[.int .i64 b.first, .slice A1 n1 c1, .int .i64 b.rate], .agg #[.int .i64 p.kind, .int .i64 p.age, .int .i64 p.years, .int .i64 p.sum, .int .i64 p.load], .int .i64 k]) (by simp [results, Try.results24, go_sem, q0, q1, q2, s0, s1, s2, s3, s4]) rfl ?_
  exact ⟨b, A1, n1, c1, p, k, rfl, ⟨HR9.out, HPD.out.sm, HPD.out.ps⟩, hk, HB9.out⟩
set_option maxRecDepth 100000 in
set_option maxHeartbeats 8000000 in
theorem spec_DrawDenominatorAt_any (K : Code) (hK : K.Ok) (w : World) (hX : Rd w w.heap.size K.A 1 (byteRows K.bs)) :
    Calls Try.prog 27 #[.slice K.A K.n K.c] w fun e w' => ∃ (b : Bas) (A : Option Addr) (n c : Nat) (p : Policy) (k : Int), e = .returned (.tuple #[.agg #[.int .i64 b.first, .slice A n c, .int .i64 b.rate], .agg #[.int .i64 p.kind, .int .i64 p.age, .int .i64 p.years, .int .i64 p.sum, .int .i64 p.load], .int .i64 k]) ∧ PD w.heap.size w' b A n c p ∧ (-1 ≤ k ∧ k ≤ 200) ∧ Below w.heap.size w w' := by
  have hb0 : Below w.heap.size w ((w.alloc (.cells #[.int .i64 0, .slice none 0 0, .int .i64 0] 28)).alloc (.cells #[.int .i64 0, .int .i64 0, .int .i64 0, .int .i64 0, .int .i64 0] 35)) := ((Below.refl _ w).alloc (Nat.le_refl _) _).alloc (by simp) _
  have HZB := Lib.hid ((Blk.new w 28 #[.int .i64 0, .slice none 0 0, .int .i64 0]).alloc (.cells #[.int .i64 0, .int .i64 0, .int .i64 0, .int .i64 0, .int .i64 0] 35))
  have HZP := Lib.hid (Blk.new (w.alloc (.cells #[.int .i64 0, .slice none 0 0, .int .i64 0] 28)) 35 #[.int .i64 0, .int .i64 0, .int .i64 0, .int .i64 0, .int .i64 0])
  simp only [World.size_alloc] at HZP
  have hX := hX.past hb0
  have HBW := Lib.hid hb0; clear hb0
  have HSZ := Lib.hid (show w.heap.size + 2 = ((w.alloc (.cells #[.int .i64 0, .slice none 0 0, .int .i64 0] 28)).alloc (.cells #[.int .i64 0, .int .i64 0, .int .i64 0, .int .i64 0, .int .i64 0] 35)).heap.size by simp)
  go_enter Try.func27, Try.ntmps27
  go_wp2_with fail
  generalize ((w.alloc (.cells #[.int .i64 0, .slice none 0 0, .int .i64 0] 28)).alloc (.cells #[.int .i64 0, .int .i64 0, .int .i64 0, .int .i64 0, .int .i64 0] 35)) = Wa at HZB HZP HBW HSZ hX ⊢
  refine (spec_l01From_any K hK _ hX).mono ?_
  rintro e w1 ⟨g, rfl, hg, hb, hS⟩
  clear hX
  have hT := Nx.refl hS
  go_wp2_with fail
  refine (spec_l11Draw_any K hK g _ _ hT).mono ?_
  rintro e w3 ⟨b, A1, n1, c1, p, k, rfl, hP, hk, hT1⟩
  have hs0 := HSZ.out
  have hg1 : g < w1.heap.size := hS.lt
  have h12 := hT1.size
  have h01 := hb.size
  have HZB3 := Lib.hid ((HZB.out.below' hb).nx hT1 (by omega))
  have HZP3 := Lib.hid ((HZP.out.below' hb).nx hT1 (by omega))
  have HB3 := Lib.hid (HBW.out.trans ((hb.mono (by omega)).trans (hT1.below.mono (by omega))))
  have HPD := Lib.hid (show PD w1.heap.size w3 b A1 n1 c1 p from hP)
  have zc0 : w3.cell? ⟨w.heap.size, 0, none⟩ = some (.int .i64 0) := HZB3.out.cell 0
  have zf0 : w3.frozen? ⟨w.heap.size, 0, none⟩ = false := HZB3.out.frozen 0
  have zc1 : w3.cell? ⟨w.heap.size, 1, none⟩ = some (.slice none 0 0) := HZB3.out.cell 1
  have zf1 : w3.frozen? ⟨w.heap.size, 1, none⟩ = false := HZB3.out.frozen 1
  have zc2 : w3.cell? ⟨w.heap.size, 2, none⟩ = some (.int .i64 0) := HZB3.out.cell 2
  have zf2 : w3.frozen? ⟨w.heap.size, 2, none⟩ = false := HZB3.out.frozen 2
  have yc0 : w3.cell? ⟨w.heap.size + 1, 0, none⟩ = some (.int .i64 0) := HZP3.out.cell 0
  have yf0 : w3.frozen? ⟨w.heap.size + 1, 0, none⟩ = false := HZP3.out.frozen 0
  have yc1 : w3.cell? ⟨w.heap.size + 1, 1, none⟩ = some (.int .i64 0) := HZP3.out.cell 1
  have yf1 : w3.frozen? ⟨w.heap.size + 1, 1, none⟩ = false := HZP3.out.frozen 1
  have yc2 : w3.cell? ⟨w.heap.size + 1, 2, none⟩ = some (.int .i64 0) := HZP3.out.cell 2
  have yf2 : w3.frozen? ⟨w.heap.size + 1, 2, none⟩ = false := HZP3.out.frozen 2
  have yc3 : w3.cell? ⟨w.heap.size + 1, 3, none⟩ = some (.int .i64 0) := HZP3.out.cell 3
  have yf3 : w3.frozen? ⟨w.heap.size + 1, 3, none⟩ = false := HZP3.out.frozen 3
  have yc4 : w3.cell? ⟨w.heap.size + 1, 4, none⟩ = some (.int .i64 0) := HZP3.out.cell 4
  have yf4 : w3.frozen? ⟨w.heap.size + 1, 4, none⟩ = false := HZP3.out.frozen 4
  clear hT hT1 hS hb HZB HZP HBW
  go_wp2_with fail
  have hz1 : Blk ((((((((w3.setCell ⟨w.heap.size, 0, none⟩ (.int .i64 b.first)).setCell ⟨w.heap.size, 1, none⟩ (.slice A1 n1 c1)).setCell ⟨w.heap.size, 2, none⟩ (.int .i64 b.rate)).setCell ⟨w.heap.size + 1, 0, none⟩ (.int .i64 p.kind)).setCell ⟨w.heap.size + 1, 1, none⟩ (.int .i64 p.age)).setCell ⟨w.heap.size + 1, 2, none⟩ (.int .i64 p.years)).setCell ⟨w.heap.size + 1, 3, none⟩ (.int .i64 p.sum)).setCell ⟨w.heap.size + 1, 4, none⟩ (.int .i64 p.load)) w.heap.size 28 #[.int .i64 b.first, .slice A1 n1 c1, .int .i64 b.rate] := by simpa using ((((((((HZB3.out.set_ 0 (.int .i64 b.first)).set_ 1 (.slice A1 n1 c1)).set_ 2 (.int .i64 b.rate)).far (p := ⟨w.heap.size + 1, 0, none⟩) (by show w.heap.size ≠ w.heap.size + 1; omega) (.int .i64 p.kind)).far (p := ⟨w.heap.size + 1, 1, none⟩) (by show w.heap.size ≠ w.heap.size + 1; omega) (.int .i64 p.age)).far (p := ⟨w.heap.size + 1, 2, none⟩) (by show w.heap.size ≠ w.heap.size + 1; omega) (.int .i64 p.years)).far (p := ⟨w.heap.size + 1, 3, none⟩) (by show w.heap.size ≠ w.heap.size + 1; omega) (.int .i64 p.sum)).far (p := ⟨w.heap.size + 1, 4, none⟩) (by show w.heap.size ≠ w.heap.size + 1; omega) (.int .i64 p.load))
  have hz2 : Blk ((((((((w3.setCell ⟨w.heap.size, 0, none⟩ (.int .i64 b.first)).setCell ⟨w.heap.size, 1, none⟩ (.slice A1 n1 c1)).setCell ⟨w.heap.size, 2, none⟩ (.int .i64 b.rate)).setCell ⟨w.heap.size + 1, 0, none⟩ (.int .i64 p.kind)).setCell ⟨w.heap.size + 1, 1, none⟩ (.int .i64 p.age)).setCell ⟨w.heap.size + 1, 2, none⟩ (.int .i64 p.years)).setCell ⟨w.heap.size + 1, 3, none⟩ (.int .i64 p.sum)).setCell ⟨w.heap.size + 1, 4, none⟩ (.int .i64 p.load)) (w.heap.size + 1) 35 #[.int .i64 p.kind, .int .i64 p.age, .int .i64 p.years, .int .i64 p.sum, .int .i64 p.load] := by simpa using ((((((((HZP3.out.far (p := ⟨w.heap.size, 0, none⟩) (by show w.heap.size + 1 ≠ w.heap.size; omega) (.int .i64 b.first)).far (p := ⟨w.heap.size, 1, none⟩) (by show w.heap.size + 1 ≠ w.heap.size; omega) (.slice A1 n1 c1)).far (p := ⟨w.heap.size, 2, none⟩) (by show w.heap.size + 1 ≠ w.heap.size; omega) (.int .i64 b.rate)).set_ 0 (.int .i64 p.kind)).set_ 1 (.int .i64 p.age)).set_ 2 (.int .i64 p.years)).set_ 3 (.int .i64 p.sum)).set_ 4 (.int .i64 p.load))
  have hb8 : Below w.heap.size w ((((((((w3.setCell ⟨w.heap.size, 0, none⟩ (.int .i64 b.first)).setCell ⟨w.heap.size, 1, none⟩ (.slice A1 n1 c1)).setCell ⟨w.heap.size, 2, none⟩ (.int .i64 b.rate)).setCell ⟨w.heap.size + 1, 0, none⟩ (.int .i64 p.kind)).setCell ⟨w.heap.size + 1, 1, none⟩ (.int .i64 p.age)).setCell ⟨w.heap.size + 1, 2, none⟩ (.int .i64 p.years)).setCell ⟨w.heap.size + 1, 3, none⟩ (.int .i64 p.sum)).setCell ⟨w.heap.size + 1, 4, none⟩ (.int .i64 p.load)) := ((((((((HB3.out.setCell (p := ⟨w.heap.size, 0, none⟩) (Nat.le_refl _) (.int .i64 b.first)).setCell (p := ⟨w.heap.size, 1, none⟩) (Nat.le_refl _) (.slice A1 n1 c1)).setCell (p := ⟨w.heap.size, 2, none⟩) (Nat.le_refl _) (.int .i64 b.rate)).setCell (p := ⟨w.heap.size + 1, 0, none⟩) (Nat.le_succ _) (.int .i64 p.kind)).setCell (p := ⟨w.heap.size + 1, 1, none⟩) (Nat.le_succ _) (.int .i64 p.age)).setCell (p := ⟨w.heap.size + 1, 2, none⟩) (Nat.le_succ _) (.int .i64 p.years)).setCell (p := ⟨w.heap.size + 1, 3, none⟩) (Nat.le_succ _) (.int .i64 p.sum)).setCell (p := ⟨w.heap.size + 1, 4, none⟩) (Nat.le_succ _) (.int .i64 p.load))
  have hR8 : Res w.heap.size ((((((((w3.setCell ⟨w.heap.size, 0, none⟩ (.int .i64 b.first)).setCell ⟨w.heap.size, 1, none⟩ (.slice A1 n1 c1)).setCell ⟨w.heap.size, 2, none⟩ (.int .i64 b.rate)).setCell ⟨w.heap.size + 1, 0, none⟩ (.int .i64 p.kind)).setCell ⟨w.heap.size + 1, 1, none⟩ (.int .i64 p.age)).setCell ⟨w.heap.size + 1, 2, none⟩ (.int .i64 p.years)).setCell ⟨w.heap.size + 1, 3, none⟩ (.int .i64 p.sum)).setCell ⟨w.heap.size + 1, 4, none⟩ (.int .i64 p.load)) 2 1 A1 n1 c1 (intRows b.lives) := (HPD.out.liv.keep fun a ha => by
    have h9 := (HPD.out.liv.lt ha).1
    rw [Below.heap_setCell _ _ _ _ (by show a ≠ w.heap.size + 1; omega), Below.heap_setCell _ _ _ _ (by show a ≠ w.heap.size + 1; omega), Below.heap_setCell _ _ _ _ (by show a ≠ w.heap.size + 1; omega), Below.heap_setCell _ _ _ _ (by show a ≠ w.heap.size + 1; omega), Below.heap_setCell _ _ _ _ (by show a ≠ w.heap.size + 1; omega), Below.heap_setCell _ _ _ _ (by show a ≠ w.heap.size; omega), Below.heap_setCell _ _ _ _ (by show a ≠ w.heap.size; omega), Below.heap_setCell _ _ _ _ (by show a ≠ w.heap.size; omega)]).more (by omega)
  generalize ((((((((w3.setCell ⟨w.heap.size, 0, none⟩ (.int .i64 b.first)).setCell ⟨w.heap.size, 1, none⟩ (.slice A1 n1 c1)).setCell ⟨w.heap.size, 2, none⟩ (.int .i64 b.rate)).setCell ⟨w.heap.size + 1, 0, none⟩ (.int .i64 p.kind)).setCell ⟨w.heap.size + 1, 1, none⟩ (.int .i64 p.age)).setCell ⟨w.heap.size + 1, 2, none⟩ (.int .i64 p.years)).setCell ⟨w.heap.size + 1, 3, none⟩ (.int .i64 p.sum)).setCell ⟨w.heap.size + 1, 4, none⟩ (.int .i64 p.load)) = W9 at hz1 hz2 hb8 hR8 ⊢
  have q0 : W9.cell? ⟨w.heap.size, 0, none⟩ = some (.int .i64 b.first) := hz1.cell 0
  have q1 : W9.cell? ⟨w.heap.size, 1, none⟩ = some (.slice A1 n1 c1) := hz1.cell 1
  have q2 : W9.cell? ⟨w.heap.size, 2, none⟩ = some (.int .i64 b.rate) := hz1.cell 2
  have s0 : W9.cell? ⟨w.heap.size + 1, 0, none⟩ = some (.int .i64 p.kind) := hz2.cell 0
  have s1 : W9.cell? ⟨w.heap.size + 1, 1, none⟩ = some (.int .i64 p.age) := hz2.cell 1
  have s2 : W9.cell? ⟨w.heap.size + 1, 2, none⟩ = some (.int .i64 p.years) := hz2.cell 2
  have s3 : W9.cell? ⟨w.heap.size + 1, 3, none⟩ = some (.int .i64 p.sum) := hz2.cell 3
  have s4 : W9.cell? ⟨w.heap.size + 1, 4, none⟩ = some (.int .i64 p.load) := hz2.cell 4
  have HB9 := Lib.hid hb8; have HR9 := Lib.hid hR8; clear hb8 hR8 hz1 hz2 zc0 zc1 zc2 zf0 zf1 zf2 yc0 yc1 yc2 yc3 yc4 yf0 yf1 yf2 yf3 yf4
  go_wp2_with fail
  refine bodyPost_ret (v := .tuple #[.agg #[.int .i64 b.first, .slice A1 n1 c1, .int .i64 b.rate], .agg #[.int .i64 p.kind, .int .i64 p.age, .int .i64 p.years, .int .i64 p.sum, .int .i64 p.load], .int .i64 k]) (by simp [results, Try.results27, go_sem, q0, q1, q2, s0, s1, s2, s3, s4]) rfl ?_
  exact ⟨b, A1, n1, c1, p, k, rfl, ⟨HR9.out, HPD.out.sm, HPD.out.ps⟩, hk, HB9.out⟩
set_option maxRecDepth 100000 in
set_option maxHeartbeats 8000000 in
theorem spec_DrawPaidUpSum_any (K : Code) (hK : K.Ok) (w : World) (hX : Rd w w.heap.size K.A 1 (byteRows K.bs)) :
    Calls Try.prog 32 #[.slice K.A K.n K.c] w fun e w' => ∃ (b : Bas) (A : Option Addr) (n c : Nat) (p : Policy) (k : Int), e = .returned (.tuple #[.agg #[.int .i64 b.first, .slice A n c, .int .i64 b.rate], .agg #[.int .i64 p.kind, .int .i64 p.age, .int .i64 p.years, .int .i64 p.sum, .int .i64 p.load], .int .i64 k]) ∧ PD w.heap.size w' b A n c p ∧ (-1 ≤ k ∧ k ≤ 200) ∧ Below w.heap.size w w' := by
  have hb0 : Below w.heap.size w ((w.alloc (.cells #[.int .i64 0, .slice none 0 0, .int .i64 0] 28)).alloc (.cells #[.int .i64 0, .int .i64 0, .int .i64 0, .int .i64 0, .int .i64 0] 35)) := ((Below.refl _ w).alloc (Nat.le_refl _) _).alloc (by simp) _
  have HZB := Lib.hid ((Blk.new w 28 #[.int .i64 0, .slice none 0 0, .int .i64 0]).alloc (.cells #[.int .i64 0, .int .i64 0, .int .i64 0, .int .i64 0, .int .i64 0] 35))
  have HZP := Lib.hid (Blk.new (w.alloc (.cells #[.int .i64 0, .slice none 0 0, .int .i64 0] 28)) 35 #[.int .i64 0, .int .i64 0, .int .i64 0, .int .i64 0, .int .i64 0])
  simp only [World.size_alloc] at HZP
  have hX := hX.past hb0
  have HBW := Lib.hid hb0; clear hb0
  have HSZ := Lib.hid (show w.heap.size + 2 = ((w.alloc (.cells #[.int .i64 0, .slice none 0 0, .int .i64 0] 28)).alloc (.cells #[.int .i64 0, .int .i64 0, .int .i64 0, .int .i64 0, .int .i64 0] 35)).heap.size by simp)
  go_enter Try.func32, Try.ntmps32
  go_wp2_with fail
  generalize ((w.alloc (.cells #[.int .i64 0, .slice none 0 0, .int .i64 0] 28)).alloc (.cells #[.int .i64 0, .int .i64 0, .int .i64 0, .int .i64 0, .int .i64 0] 35)) = Wa at HZB HZP HBW HSZ hX ⊢
  refine (spec_l01From_any K hK _ hX).mono ?_
  rintro e w1 ⟨g, rfl, hg, hb, hS⟩
  clear hX
  have hT := Nx.refl hS
  go_wp2_with fail
  refine (spec_l12Draw_any K hK g _ _ hT).mono ?_
  rintro e w3 ⟨b, A1, n1, c1, p, k, rfl, hP, hk, hT1⟩
  have hs0 := HSZ.out
  have hg1 : g < w1.heap.size := hS.lt
  have h12 := hT1.size
  have h01 := hb.size
  have HZB3 := Lib.hid ((HZB.out.below' hb).nx hT1 (by omega))
  have HZP3 := Lib.hid ((HZP.out.below' hb).nx hT1 (by omega))
  have HB3 := Lib.hid (HBW.out.trans ((hb.mono (by omega)).trans (hT1.below.mono (by omega))))
  have HPD := Lib.hid (show PD w1.heap.size w3 b A1 n1 c1 p from hP)
  have zc0 : w3.cell? ⟨w.heap.size, 0, none⟩ = some (.int .i64 0) := HZB3.out.cell 0
  have zf0 : w3.frozen? ⟨w.heap.size, 0, none⟩ = false := HZB3.out.frozen 0
  have zc1 : w3.cell? ⟨w.heap.size, 1, none⟩ = some (.slice none 0 0) := HZB3.out.cell 1
  have zf1 : w3.frozen? ⟨w.heap.size, 1, none⟩ = false := HZB3.out.frozen 1
  have zc2 : w3.cell? ⟨w.heap.size, 2, none⟩ = some (.int .i64 0) := HZB3.out.cell 2
  have zf2 : w3.frozen? ⟨w.heap.size, 2, none⟩ = false := HZB3.out.frozen 2
  have yc0 : w3.cell? ⟨w.heap.size + 1, 0, none⟩ = some (.int .i64 0) := HZP3.out.cell 0
  have yf0 : w3.frozen? ⟨w.heap.size + 1, 0, none⟩ = false := HZP3.out.frozen 0
  have yc1 : w3.cell? ⟨w.heap.size + 1, 1, none⟩ = some (.int .i64 0) := HZP3.out.cell 1
  have yf1 : w3.frozen? ⟨w.heap.size + 1, 1, none⟩ = false := HZP3.out.frozen 1
  have yc2 : w3.cell? ⟨w.heap.size + 1, 2, none⟩ = some (.int .i64 0) := HZP3.out.cell 2
  have yf2 : w3.frozen? ⟨w.heap.size + 1, 2, none⟩ = false := HZP3.out.frozen 2
  have yc3 : w3.cell? ⟨w.heap.size + 1, 3, none⟩ = some (.int .i64 0) := HZP3.out.cell 3
  have yf3 : w3.frozen? ⟨w.heap.size + 1, 3, none⟩ = false := HZP3.out.frozen 3
  have yc4 : w3.cell? ⟨w.heap.size + 1, 4, none⟩ = some (.int .i64 0) := HZP3.out.cell 4
  have yf4 : w3.frozen? ⟨w.heap.size + 1, 4, none⟩ = false := HZP3.out.frozen 4
  clear hT hT1 hS hb HZB HZP HBW
  go_wp2_with fail
  have hz1 : Blk ((((((((w3.setCell ⟨w.heap.size, 0, none⟩ (.int .i64 b.first)).setCell ⟨w.heap.size, 1, none⟩ (.slice A1 n1 c1)).setCell ⟨w.heap.size, 2, none⟩ (.int .i64 b.rate)).setCell ⟨w.heap.size + 1, 0, none⟩ (.int .i64 p.kind)).setCell ⟨w.heap.size + 1, 1, none⟩ (.int .i64 p.age)).setCell ⟨w.heap.size + 1, 2, none⟩ (.int .i64 p.years)).setCell ⟨w.heap.size + 1, 3, none⟩ (.int .i64 p.sum)).setCell ⟨w.heap.size + 1, 4, none⟩ (.int .i64 p.load)) w.heap.size 28 #[.int .i64 b.first, .slice A1 n1 c1, .int .i64 b.rate] := by simpa using ((((((((HZB3.out.set_ 0 (.int .i64 b.first)).set_ 1 (.slice A1 n1 c1)).set_ 2 (.int .i64 b.rate)).far (p := ⟨w.heap.size + 1, 0, none⟩) (by show w.heap.size ≠ w.heap.size + 1; omega) (.int .i64 p.kind)).far (p := ⟨w.heap.size + 1, 1, none⟩) (by show w.heap.size ≠ w.heap.size + 1; omega) (.int .i64 p.age)).far (p := ⟨w.heap.size + 1, 2, none⟩) (by show w.heap.size ≠ w.heap.size + 1; omega) (.int .i64 p.years)).far (p := ⟨w.heap.size + 1, 3, none⟩) (by show w.heap.size ≠ w.heap.size + 1; omega) (.int .i64 p.sum)).far (p := ⟨w.heap.size + 1, 4, none⟩) (by show w.heap.size ≠ w.heap.size + 1; omega) (.int .i64 p.load))
  have hz2 : Blk ((((((((w3.setCell ⟨w.heap.size, 0, none⟩ (.int .i64 b.first)).setCell ⟨w.heap.size, 1, none⟩ (.slice A1 n1 c1)).setCell ⟨w.heap.size, 2, none⟩ (.int .i64 b.rate)).setCell ⟨w.heap.size + 1, 0, none⟩ (.int .i64 p.kind)).setCell ⟨w.heap.size + 1, 1, none⟩ (.int .i64 p.age)).setCell ⟨w.heap.size + 1, 2, none⟩ (.int .i64 p.years)).setCell ⟨w.heap.size + 1, 3, none⟩ (.int .i64 p.sum)).setCell ⟨w.heap.size + 1, 4, none⟩ (.int .i64 p.load)) (w.heap.size + 1) 35 #[.int .i64 p.kind, .int .i64 p.age, .int .i64 p.years, .int .i64 p.sum, .int .i64 p.load] := by simpa using ((((((((HZP3.out.far (p := ⟨w.heap.size, 0, none⟩) (by show w.heap.size + 1 ≠ w.heap.size; omega) (.int .i64 b.first)).far (p := ⟨w.heap.size, 1, none⟩) (by show w.heap.size + 1 ≠ w.heap.size; omega) (.slice A1 n1 c1)).far (p := ⟨w.heap.size, 2, none⟩) (by show w.heap.size + 1 ≠ w.heap.size; omega) (.int .i64 b.rate)).set_ 0 (.int .i64 p.kind)).set_ 1 (.int .i64 p.age)).set_ 2 (.int .i64 p.years)).set_ 3 (.int .i64 p.sum)).set_ 4 (.int .i64 p.load))
  have hb8 : Below w.heap.size w ((((((((w3.setCell ⟨w.heap.size, 0, none⟩ (.int .i64 b.first)).setCell ⟨w.heap.size, 1, none⟩ (.slice A1 n1 c1)).setCell ⟨w.heap.size, 2, none⟩ (.int .i64 b.rate)).setCell ⟨w.heap.size + 1, 0, none⟩ (.int .i64 p.kind)).setCell ⟨w.heap.size + 1, 1, none⟩ (.int .i64 p.age)).setCell ⟨w.heap.size + 1, 2, none⟩ (.int .i64 p.years)).setCell ⟨w.heap.size + 1, 3, none⟩ (.int .i64 p.sum)).setCell ⟨w.heap.size + 1, 4, none⟩ (.int .i64 p.load)) := ((((((((HB3.out.setCell (p := ⟨w.heap.size, 0, none⟩) (Nat.le_refl _) (.int .i64 b.first)).setCell (p := ⟨w.heap.size, 1, none⟩) (Nat.le_refl _) (.slice A1 n1 c1)).setCell (p := ⟨w.heap.size, 2, none⟩) (Nat.le_refl _) (.int .i64 b.rate)).setCell (p := ⟨w.heap.size + 1, 0, none⟩) (Nat.le_succ _) (.int .i64 p.kind)).setCell (p := ⟨w.heap.size + 1, 1, none⟩) (Nat.le_succ _) (.int .i64 p.age)).setCell (p := ⟨w.heap.size + 1, 2, none⟩) (Nat.le_succ _) (.int .i64 p.years)).setCell (p := ⟨w.heap.size + 1, 3, none⟩) (Nat.le_succ _) (.int .i64 p.sum)).setCell (p := ⟨w.heap.size + 1, 4, none⟩) (Nat.le_succ _) (.int .i64 p.load))
  have hR8 : Res w.heap.size ((((((((w3.setCell ⟨w.heap.size, 0, none⟩ (.int .i64 b.first)).setCell ⟨w.heap.size, 1, none⟩ (.slice A1 n1 c1)).setCell ⟨w.heap.size, 2, none⟩ (.int .i64 b.rate)).setCell ⟨w.heap.size + 1, 0, none⟩ (.int .i64 p.kind)).setCell ⟨w.heap.size + 1, 1, none⟩ (.int .i64 p.age)).setCell ⟨w.heap.size + 1, 2, none⟩ (.int .i64 p.years)).setCell ⟨w.heap.size + 1, 3, none⟩ (.int .i64 p.sum)).setCell ⟨w.heap.size + 1, 4, none⟩ (.int .i64 p.load)) 2 1 A1 n1 c1 (intRows b.lives) := (HPD.out.liv.keep fun a ha => by
    have h9 := (HPD.out.liv.lt ha).1
    rw [Below.heap_setCell _ _ _ _ (by show a ≠ w.heap.size + 1; omega), Below.heap_setCell _ _ _ _ (by show a ≠ w.heap.size + 1; omega), Below.heap_setCell _ _ _ _ (by show a ≠ w.heap.size + 1; omega), Below.heap_setCell _ _ _ _ (by show a ≠ w.heap.size + 1; omega), Below.heap_setCell _ _ _ _ (by show a ≠ w.heap.size + 1; omega), Below.heap_setCell _ _ _ _ (by show a ≠ w.heap.size; omega), Below.heap_setCell _ _ _ _ (by show a ≠ w.heap.size; omega), Below.heap_setCell _ _ _ _ (by show a ≠ w.heap.size; omega)]).more (by omega)
  generalize ((((((((w3.setCell ⟨w.heap.size, 0, none⟩ (.int .i64 b.first)).setCell ⟨w.heap.size, 1, none⟩ (.slice A1 n1 c1)).setCell ⟨w.heap.size, 2, none⟩ (.int .i64 b.rate)).setCell ⟨w.heap.size + 1, 0, none⟩ (.int .i64 p.kind)).setCell ⟨w.heap.size + 1, 1, none⟩ (.int .i64 p.age)).setCell ⟨w.heap.size + 1, 2, none⟩ (.int .i64 p.years)).setCell ⟨w.heap.size + 1, 3, none⟩ (.int .i64 p.sum)).setCell ⟨w.heap.size + 1, 4, none⟩ (.int .i64 p.load)) = W9 at hz1 hz2 hb8 hR8 ⊢
  have q0 : W9.cell? ⟨w.heap.size, 0, none⟩ = some (.int .i64 b.first) := hz1.cell 0
  have q1 : W9.cell? ⟨w.heap.size, 1, none⟩ = some (.slice A1 n1 c1) := hz1.cell 1
  have q2 : W9.cell? ⟨w.heap.size, 2, none⟩ = some (.int .i64 b.rate) := hz1.cell 2
  have s0 : W9.cell? ⟨w.heap.size + 1, 0, none⟩ = some (.int .i64 p.kind) := hz2.cell 0
  have s1 : W9.cell? ⟨w.heap.size + 1, 1, none⟩ = some (.int .i64 p.age) := hz2.cell 1
  have s2 : W9.cell? ⟨w.heap.size + 1, 2, none⟩ = some (.int .i64 p.years) := hz2.cell 2
  have s3 : W9.cell? ⟨w.heap.size + 1, 3, none⟩ = some (.int .i64 p.sum) := hz2.cell 3
  have s4 : W9.cell? ⟨w.heap.size + 1, 4, none⟩ = some (.int .i64 p.load) := hz2.cell 4
  have HB9 := Lib.hid hb8; have HR9 := Lib.hid hR8; clear hb8 hR8 hz1 hz2 zc0 zc1 zc2 zf0 zf1 zf2 yc0 yc1 yc2 yc3 yc4 yf0 yf1 yf2 yf3 yf4
  go_wp2_with fail
  refine bodyPost_ret (v := .tuple #[.agg #[.int .i64 b.first, .slice A1 n1 c1, .int .i64 b.rate], .agg #[.int .i64 p.kind, .int .i64 p.age, .int .i64 p.years, .int .i64 p.sum, .int .i64 p.load], .int .i64 k]) (by simp [results, Try.results32, go_sem, q0, q1, q2, s0, s1, s2, s3, s4]) rfl ?_
  exact ⟨b, A1, n1, c1, p, k, rfl, ⟨HR9.out, HPD.out.sm, HPD.out.ps⟩, hk, HB9.out⟩
set_option maxRecDepth 100000 in
set_option maxHeartbeats 8000000 in
theorem spec_DrawKeptYears_any (K : Code) (hK : K.Ok) (w : World) (hX : Rd w w.heap.size K.A 1 (byteRows K.bs)) :
    Calls Try.prog 41 #[.slice K.A K.n K.c] w fun e w' => ∃ (b : Bas) (A : Option Addr) (n c : Nat) (p : Policy) (k : Int), e = .returned (.tuple #[.agg #[.int .i64 b.first, .slice A n c, .int .i64 b.rate], .agg #[.int .i64 p.kind, .int .i64 p.age, .int .i64 p.years, .int .i64 p.sum, .int .i64 p.load], .int .i64 k]) ∧ PD w.heap.size w' b A n c p ∧ (-1 ≤ k ∧ k ≤ 200) ∧ Below w.heap.size w w' := by
  have hb0 : Below w.heap.size w ((w.alloc (.cells #[.int .i64 0, .slice none 0 0, .int .i64 0] 28)).alloc (.cells #[.int .i64 0, .int .i64 0, .int .i64 0, .int .i64 0, .int .i64 0] 35)) := ((Below.refl _ w).alloc (Nat.le_refl _) _).alloc (by simp) _
  have HZB := Lib.hid ((Blk.new w 28 #[.int .i64 0, .slice none 0 0, .int .i64 0]).alloc (.cells #[.int .i64 0, .int .i64 0, .int .i64 0, .int .i64 0, .int .i64 0] 35))
  have HZP := Lib.hid (Blk.new (w.alloc (.cells #[.int .i64 0, .slice none 0 0, .int .i64 0] 28)) 35 #[.int .i64 0, .int .i64 0, .int .i64 0, .int .i64 0, .int .i64 0])
  simp only [World.size_alloc] at HZP
  have hX := hX.past hb0
  have HBW := Lib.hid hb0; clear hb0
  have HSZ := Lib.hid (show w.heap.size + 2 = ((w.alloc (.cells #[.int .i64 0, .slice none 0 0, .int .i64 0] 28)).alloc (.cells #[.int .i64 0, .int .i64 0, .int .i64 0, .int .i64 0, .int .i64 0] 35)).heap.size by simp)
  go_enter Try.func41, Try.ntmps41
  go_wp2_with fail
  generalize ((w.alloc (.cells #[.int .i64 0, .slice none 0 0, .int .i64 0] 28)).alloc (.cells #[.int .i64 0, .int .i64 0, .int .i64 0, .int .i64 0, .int .i64 0] 35)) = Wa at HZB HZP HBW HSZ hX ⊢
  refine (spec_l01From_any K hK _ hX).mono ?_
  rintro e w1 ⟨g, rfl, hg, hb, hS⟩
  clear hX
  have hT := Nx.refl hS
  go_wp2_with fail
  refine (spec_l12Draw_any K hK g _ _ hT).mono ?_
  rintro e w3 ⟨b, A1, n1, c1, p, k, rfl, hP, hk, hT1⟩
  have hs0 := HSZ.out
  have hg1 : g < w1.heap.size := hS.lt
  have h12 := hT1.size
  have h01 := hb.size
  have HZB3 := Lib.hid ((HZB.out.below' hb).nx hT1 (by omega))
  have HZP3 := Lib.hid ((HZP.out.below' hb).nx hT1 (by omega))
  have HB3 := Lib.hid (HBW.out.trans ((hb.mono (by omega)).trans (hT1.below.mono (by omega))))
  have HPD := Lib.hid (show PD w1.heap.size w3 b A1 n1 c1 p from hP)
  have zc0 : w3.cell? ⟨w.heap.size, 0, none⟩ = some (.int .i64 0) := HZB3.out.cell 0
  have zf0 : w3.frozen? ⟨w.heap.size, 0, none⟩ = false := HZB3.out.frozen 0
  have zc1 : w3.cell? ⟨w.heap.size, 1, none⟩ = some (.slice none 0 0) := HZB3.out.cell 1
  have zf1 : w3.frozen? ⟨w.heap.size, 1, none⟩ = false := HZB3.out.frozen 1
  have zc2 : w3.cell? ⟨w.heap.size, 2, none⟩ = some (.int .i64 0) := HZB3.out.cell 2
  have zf2 : w3.frozen? ⟨w.heap.size, 2, none⟩ = false := HZB3.out.frozen 2
  have yc0 : w3.cell? ⟨w.heap.size + 1, 0, none⟩ = some (.int .i64 0) := HZP3.out.cell 0
  have yf0 : w3.frozen? ⟨w.heap.size + 1, 0, none⟩ = false := HZP3.out.frozen 0
  have yc1 : w3.cell? ⟨w.heap.size + 1, 1, none⟩ = some (.int .i64 0) := HZP3.out.cell 1
  have yf1 : w3.frozen? ⟨w.heap.size + 1, 1, none⟩ = false := HZP3.out.frozen 1
  have yc2 : w3.cell? ⟨w.heap.size + 1, 2, none⟩ = some (.int .i64 0) := HZP3.out.cell 2
  have yf2 : w3.frozen? ⟨w.heap.size + 1, 2, none⟩ = false := HZP3.out.frozen 2
  have yc3 : w3.cell? ⟨w.heap.size + 1, 3, none⟩ = some (.int .i64 0) := HZP3.out.cell 3
  have yf3 : w3.frozen? ⟨w.heap.size + 1, 3, none⟩ = false := HZP3.out.frozen 3
  have yc4 : w3.cell? ⟨w.heap.size + 1, 4, none⟩ = some (.int .i64 0) := HZP3.out.cell 4
  have yf4 : w3.frozen? ⟨w.heap.size + 1, 4, none⟩ = false := HZP3.out.frozen 4
  clear hT hT1 hS hb HZB HZP HBW
  go_wp2_with fail
  have hz1 : Blk ((((((((w3.setCell ⟨w.heap.size, 0, none⟩ (.int .i64 b.first)).setCell ⟨w.heap.size, 1, none⟩ (.slice A1 n1 c1)).setCell ⟨w.heap.size, 2, none⟩ (.int .i64 b.rate)).setCell ⟨w.heap.size + 1, 0, none⟩ (.int .i64 p.kind)).setCell ⟨w.heap.size + 1, 1, none⟩ (.int .i64 p.age)).setCell ⟨w.heap.size + 1, 2, none⟩ (.int .i64 p.years)).setCell ⟨w.heap.size + 1, 3, none⟩ (.int .i64 p.sum)).setCell ⟨w.heap.size + 1, 4, none⟩ (.int .i64 p.load)) w.heap.size 28 #[.int .i64 b.first, .slice A1 n1 c1, .int .i64 b.rate] := by simpa using ((((((((HZB3.out.set_ 0 (.int .i64 b.first)).set_ 1 (.slice A1 n1 c1)).set_ 2 (.int .i64 b.rate)).far (p := ⟨w.heap.size + 1, 0, none⟩) (by show w.heap.size ≠ w.heap.size + 1; omega) (.int .i64 p.kind)).far (p := ⟨w.heap.size + 1, 1, none⟩) (by show w.heap.size ≠ w.heap.size + 1; omega) (.int .i64 p.age)).far (p := ⟨w.heap.size + 1, 2, none⟩) (by show w.heap.size ≠ w.heap.size + 1; omega) (.int .i64 p.years)).far (p := ⟨w.heap.size + 1, 3, none⟩) (by show w.heap.size ≠ w.heap.size + 1; omega) (.int .i64 p.sum)).far (p := ⟨w.heap.size + 1, 4, none⟩) (by show w.heap.size ≠ w.heap.size + 1; omega) (.int .i64 p.load))
  have hz2 : Blk ((((((((w3.setCell ⟨w.heap.size, 0, none⟩ (.int .i64 b.first)).setCell ⟨w.heap.size, 1, none⟩ (.slice A1 n1 c1)).setCell ⟨w.heap.size, 2, none⟩ (.int .i64 b.rate)).setCell ⟨w.heap.size + 1, 0, none⟩ (.int .i64 p.kind)).setCell ⟨w.heap.size + 1, 1, none⟩ (.int .i64 p.age)).setCell ⟨w.heap.size + 1, 2, none⟩ (.int .i64 p.years)).setCell ⟨w.heap.size + 1, 3, none⟩ (.int .i64 p.sum)).setCell ⟨w.heap.size + 1, 4, none⟩ (.int .i64 p.load)) (w.heap.size + 1) 35 #[.int .i64 p.kind, .int .i64 p.age, .int .i64 p.years, .int .i64 p.sum, .int .i64 p.load] := by simpa using ((((((((HZP3.out.far (p := ⟨w.heap.size, 0, none⟩) (by show w.heap.size + 1 ≠ w.heap.size; omega) (.int .i64 b.first)).far (p := ⟨w.heap.size, 1, none⟩) (by show w.heap.size + 1 ≠ w.heap.size; omega) (.slice A1 n1 c1)).far (p := ⟨w.heap.size, 2, none⟩) (by show w.heap.size + 1 ≠ w.heap.size; omega) (.int .i64 b.rate)).set_ 0 (.int .i64 p.kind)).set_ 1 (.int .i64 p.age)).set_ 2 (.int .i64 p.years)).set_ 3 (.int .i64 p.sum)).set_ 4 (.int .i64 p.load))
  have hb8 : Below w.heap.size w ((((((((w3.setCell ⟨w.heap.size, 0, none⟩ (.int .i64 b.first)).setCell ⟨w.heap.size, 1, none⟩ (.slice A1 n1 c1)).setCell ⟨w.heap.size, 2, none⟩ (.int .i64 b.rate)).setCell ⟨w.heap.size + 1, 0, none⟩ (.int .i64 p.kind)).setCell ⟨w.heap.size + 1, 1, none⟩ (.int .i64 p.age)).setCell ⟨w.heap.size + 1, 2, none⟩ (.int .i64 p.years)).setCell ⟨w.heap.size + 1, 3, none⟩ (.int .i64 p.sum)).setCell ⟨w.heap.size + 1, 4, none⟩ (.int .i64 p.load)) := ((((((((HB3.out.setCell (p := ⟨w.heap.size, 0, none⟩) (Nat.le_refl _) (.int .i64 b.first)).setCell (p := ⟨w.heap.size, 1, none⟩) (Nat.le_refl _) (.slice A1 n1 c1)).setCell (p := ⟨w.heap.size, 2, none⟩) (Nat.le_refl _) (.int .i64 b.rate)).setCell (p := ⟨w.heap.size + 1, 0, none⟩) (Nat.le_succ _) (.int .i64 p.kind)).setCell (p := ⟨w.heap.size + 1, 1, none⟩) (Nat.le_succ _) (.int .i64 p.age)).setCell (p := ⟨w.heap.size + 1, 2, none⟩) (Nat.le_succ _) (.int .i64 p.years)).setCell (p := ⟨w.heap.size + 1, 3, none⟩) (Nat.le_succ _) (.int .i64 p.sum)).setCell (p := ⟨w.heap.size + 1, 4, none⟩) (Nat.le_succ _) (.int .i64 p.load))
  have hR8 : Res w.heap.size ((((((((w3.setCell ⟨w.heap.size, 0, none⟩ (.int .i64 b.first)).setCell ⟨w.heap.size, 1, none⟩ (.slice A1 n1 c1)).setCell ⟨w.heap.size, 2, none⟩ (.int .i64 b.rate)).setCell ⟨w.heap.size + 1, 0, none⟩ (.int .i64 p.kind)).setCell ⟨w.heap.size + 1, 1, none⟩ (.int .i64 p.age)).setCell ⟨w.heap.size + 1, 2, none⟩ (.int .i64 p.years)).setCell ⟨w.heap.size + 1, 3, none⟩ (.int .i64 p.sum)).setCell ⟨w.heap.size + 1, 4, none⟩ (.int .i64 p.load)) 2 1 A1 n1 c1 (intRows b.lives) := (HPD.out.liv.keep fun a ha => by
    have h9 := (HPD.out.liv.lt ha).1
    rw [Below.heap_setCell _ _ _ _ (by show a ≠ w.heap.size + 1; omega), Below.heap_setCell _ _ _ _ (by show a ≠ w.heap.size + 1; omega), Below.heap_setCell _ _ _ _ (by show a ≠ w.heap.size + 1; omega), Below.heap_setCell _ _ _ _ (by show a ≠ w.heap.size + 1; omega), Below.heap_setCell _ _ _ _ (by show a ≠ w.heap.size + 1; omega), Below.heap_setCell _ _ _ _ (by show a ≠ w.heap.size; omega), Below.heap_setCell _ _ _ _ (by show a ≠ w.heap.size; omega), Below.heap_setCell _ _ _ _ (by show a ≠ w.heap.size; omega)]).more (by omega)
  generalize ((((((((w3.setCell ⟨w.heap.size, 0, none⟩ (.int .i64 b.first)).setCell ⟨w.heap.size, 1, none⟩ (.slice A1 n1 c1)).setCell ⟨w.heap.size, 2, none⟩ (.int .i64 b.rate)).setCell ⟨w.heap.size + 1, 0, none⟩ (.int .i64 p.kind)).setCell ⟨w.heap.size + 1, 1, none⟩ (.int .i64 p.age)).setCell ⟨w.heap.size + 1, 2, none⟩ (.int .i64 p.years)).setCell ⟨w.heap.size + 1, 3, none⟩ (.int .i64 p.sum)).setCell ⟨w.heap.size + 1, 4, none⟩ (.int .i64 p.load)) = W9 at hz1 hz2 hb8 hR8 ⊢
  have q0 : W9.cell? ⟨w.heap.size, 0, none⟩ = some (.int .i64 b.first) := hz1.cell 0
  have q1 : W9.cell? ⟨w.heap.size, 1, none⟩ = some (.slice A1 n1 c1) := hz1.cell 1
  have q2 : W9.cell? ⟨w.heap.size, 2, none⟩ = some (.int .i64 b.rate) := hz1.cell 2
  have s0 : W9.cell? ⟨w.heap.size + 1, 0, none⟩ = some (.int .i64 p.kind) := hz2.cell 0
  have s1 : W9.cell? ⟨w.heap.size + 1, 1, none⟩ = some (.int .i64 p.age) := hz2.cell 1
  have s2 : W9.cell? ⟨w.heap.size + 1, 2, none⟩ = some (.int .i64 p.years) := hz2.cell 2
  have s3 : W9.cell? ⟨w.heap.size + 1, 3, none⟩ = some (.int .i64 p.sum) := hz2.cell 3
  have s4 : W9.cell? ⟨w.heap.size + 1, 4, none⟩ = some (.int .i64 p.load) := hz2.cell 4
  have HB9 := Lib.hid hb8; have HR9 := Lib.hid hR8; clear hb8 hR8 hz1 hz2 zc0 zc1 zc2 zf0 zf1 zf2 yc0 yc1 yc2 yc3 yc4 yf0 yf1 yf2 yf3 yf4
  go_wp2_with fail
  refine bodyPost_ret (v := .tuple #[.agg #[.int .i64 b.first, .slice A1 n1 c1, .int .i64 b.rate], .agg #[.int .i64 p.kind, .int .i64 p.age, .int .i64 p.years, .int .i64 p.sum, .int .i64 p.load], .int .i64 k]) (by simp [results, Try.results41, go_sem, q0, q1, q2, s0, s1, s2, s3, s4]) rfl ?_
  exact ⟨b, A1, n1, c1, p, k, rfl, ⟨HR9.out, HPD.out.sm, HPD.out.ps⟩, hk, HB9.out⟩
end Go.Proofs.Ytbjdbpdgacfcpaa
end
